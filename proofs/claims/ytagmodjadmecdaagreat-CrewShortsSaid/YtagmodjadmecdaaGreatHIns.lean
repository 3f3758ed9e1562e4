/-
  The steps of slices.Insert and slices.Concat: copy, append of zeros, cap, overlaps, rows as raw cells. Conditions: none; they hold over any program.
-/
import Derived.Test.YtagmodjadmecdaaGreatHClip
import Derived.Lib.AppendZerosOnto
import Derived.Lib.Overlaps
import Derived.Laws.Externs
import Derived.Lib.SliceRun
namespace Go.Proofs.YtagmodjadmecdaaGreat
open Go Go.RowKit

section
variable {P : Program} {ops : Array Oper} {Q : Exit → Act → World → Prop} {N : Nat} {ds : List Deferred} {rest : List Oper} {L : Slots} {w : World} {rd : Option Nat} {d : Nat} {ty : TypeId} {pos : String} {aft : Array Edge} {g : Option (Nat × Bool)}

theorem t_cap {t e : TypeId} {x : Operand} {ao : Option Addr} {n c : Nat} {ats : Array TypeId} (hu : P.underlying t = some (.slice e)) (ht : ats[0]? = some t) (hg : grd ops L g = true) (hN : Nat.blt d N = true)
    (hx : ev L x = some (.slice ao n c)) (h : WL rd P ops Q N ds rest ((d, .int .i64 (c : Int)) :: L) w) :
    WL rd P ops Q N ds (⟨some d, .call ⟨.builtin .cap, #[x], ats⟩, ty, pos, aft, g⟩ :: rest) L w :=
  WL.value hg rfl hN (fun a hk => by
    simp [execOp, resolve, invoke, builtin, Builtin.cap_, run_underlying hu, ht, hk.ev hx, goInt]) h

theorem t_nilS {xt yt e : TypeId} {x y : Operand} {ao : Option Addr} {n c n' c' : Nat} (hu : P.underlying xt = some (.slice e)) (hg : grd ops L g = true) (hN : Nat.blt d N = true)
    (hx : ev L x = some (.slice ao n c)) (hy : ev L y = some (.slice none n' c')) (h : WL rd P ops Q N ds rest ((d, .bool ao.isNone) :: L) w) :
    WL rd P ops Q N ds (⟨some d, .binOp .eql xt x y yt, ty, pos, aft, g⟩ :: rest) L w :=
  WL.value hg rfl hN (fun a hk => by
    have := Lib.run_eql_slice_nil (P := P) w xt e ao n c n' c' hu
    simp [execOp, hk.ev hx, hk.ev hy, eqGuard, this]) h

theorem t_copyB {dT sT e : TypeId} {k : Nat} {x y : Operand} {b o dLen dCap sb so sLen sCap : Nat} {vs cs : List Value} {t : TypeId}
    (hu : P.underlying dT = some (.slice e)) (hs : ∀ w, (sizeOf e).run P w = .ok k w) (hg : grd ops L g = true) (hN : Nat.blt d N = true)
    (hx : ev L x = some (.slice (some ⟨b, o, none⟩) dLen dCap)) (hy : ev L y = some (.slice (some ⟨sb, so, none⟩) sLen sCap))
    (hB : Blk w b t cs) (ha : At w sb so vs) (hn : vs.length = min sLen dLen * k) (hf : o + vs.length ≤ cs.length) (h1 : ∀ v ∈ vs, v.oneCell' = true)
    (h : ∀ w', w'.heap.size = w.heap.size → Blk w' b t (lay cs o vs) → Upd (· = b) w w' → WL rd P ops Q N ds rest ((d, .int .i64 ((min sLen dLen : Nat) : Int)) :: L) w') :
    WL rd P ops Q N ds (⟨some d, .call ⟨.builtin .copy, #[x, y], #[dT, sT]⟩, ty, pos, aft, g⟩ :: rest) L w := by
  obtain ⟨w', hr, hb', hu', hz'⟩ := run_storeCells (P := P) vs w cs o 0 hB (by omega) h1
  have hl : (loadCells ⟨sb, so, none⟩ (Nat.min sLen dLen * k)).run P w = .ok vs.toArray w := by
    have := run_loadCellsFrom (P := P) (w := w) (b := sb) (off := so) (Nat.min sLen dLen * k) 0 vs #[] (show vs.length = Nat.min sLen dLen * k from hn) (by simpa using ha)
    simpa [loadCells] using this
  refine WL.value hg rfl hN (fun a hk => ?_) (h w' hz' (by simpa using hb') hu')
  have hr2 : (Builtin.copy_ #[dT, sT] ty #[.slice (some ⟨b, o, none⟩) dLen dCap, .slice (some ⟨sb, so, none⟩) sLen sCap]).run P w = .ok (goInt (Nat.min sLen dLen)) w' := by
    simp [Builtin.copy_, run_underlying hu, Builtin.lenOf, Builtin.firstCells, hs, hl, hr]
  simp only [execOp, resolve, invoke, builtin]
  rw [show ((min sLen dLen : Nat) : Int) = ((Nat.min sLen dLen : Nat) : Int) from rfl]
  simp [hk.ev hx, hk.ev hy, hr2, goInt]

theorem append_two {t t2 e e2 : TypeId} (hu : P.underlying t = some (.slice e)) (hu2 : P.underlying t2 = some (.slice e2)) (ty : TypeId) (a b : Value) (w : World) : (Builtin.append_ #[t, t2] ty #[a, b]).run P w = (Builtin.append_ #[t, t] ty #[a, b]).run P w := by
  cases a <;> simp [Builtin.append_, run_underlying hu, run_underlying hu2]
theorem t_append2 {α : Type} {enc : α → List Value} {k : Nat} {t t2 e e2 : TypeId} {z : Value} {bytes base : Nat} {s x : Operand} {ao : Option Addr} {gb cap b c : Nat} {xs : List α} (y : α)
    (hu : P.underlying t = some (.slice e)) (hu2 : P.underlying t2 = some (.slice e2)) (hi : (P.info? e).map (fun i => (i.zero, i.size, i.bytes)) = some (some z, k, bytes)) (hz : z.cells.size = k) (hk0 : 0 < k) (hk : ∀ x, (enc x).length = k) (h1 : ∀ x, ∀ u ∈ enc x, u.oneCell' = true)
    (hg : grd ops L g = true) (hN : Nat.blt d N = true) (hs : ev L s = some (.slice ao xs.length cap)) (hx : ev L x = some (.slice (some ⟨b, 0, none⟩) 1 c))
    (ha : Acc enc k e base w ao gb cap xs) (hb : Blk w b e (enc y)) (hbase : base ≤ w.heap.size) (hlen : xs.length ≤ 1000000) (hbytes : bytes ≤ 1000)
    (h : ∀ ao' g' cap' w', Acc enc k e base w' ao' g' cap' (xs ++ [y]) → Upd (fun i => i = gb ∧ base ≤ i) w w' → (g' = gb ∨ w.heap.size ≤ g') → (xs ++ [y]).length = xs.length + 1 → WL rd P ops Q N ds rest ((d, .slice ao' (xs ++ [y]).length cap') :: L) w') :
    WL rd P ops Q N ds (⟨some d, .call ⟨.builtin .append, #[s, x], #[t, t2]⟩, ty, pos, aft, g⟩ :: rest) L w := by
  obtain ⟨i, hi0, hi1, hi2, hi3⟩ := info_parts' hi
  obtain ⟨gg, cc, w', hr, hown, hgrow, hgeq⟩ := run_append_lies (P := P) (w := w) t ty base e i z k bytes hu hi0 hi1 hi2 hi3 hz hk0 (.slice ao xs.length cap) xs.length (xs.flatMap enc) (ha.owns hk)
    ⟨b, 0, none⟩ 1 c (enc y) (by rw [hk, Nat.one_mul]) (fun j u hj => by rw [addr_add, Nat.zero_add]; exact hb.get hj) (h1 y) (by decide) (by unfold maxLen; omega) (by
      have : (xs.length + 1) * bytes ≤ 1000001 * 1000 := Nat.mul_le_mul (by omega) hbytes
      omega) hbase _ rfl
  have hlen' : (xs ++ [y]).length = xs.length + 1 := by simp
  have hacc : Acc enc k e base w' (some ⟨gg, 0, none⟩) gg cc (xs ++ [y]) := by
    obtain ⟨hl, hown⟩ := hown
    rcases hown with ⟨h0, _⟩ | ⟨g2, cap2, cur, he, hbg, hh, hc1, hc2, hc3, hc4⟩
    · cases h0
    · cases he
      refine ⟨?_, .inr ⟨rfl, hbg, cur, hh, by rw [hlen']; exact hc1, hc2, hc3, ?_⟩⟩
      · rcases Nat.lt_or_ge gg w'.heap.size with h | h
        · exact h
        · rw [Array.getElem?_eq_none h] at hh; cases hh
      · rw [hlen']; simpa using hc4
  have hupd : Upd (fun i => i = gb ∧ base ≤ i) w w' := ⟨hgrow.os, hgrow.tape, hgrow.output, hgrow.size, fun q hq hn => hgrow.block q hq (fun he => by
    rcases ha.at_ with ⟨h1, _, _, _⟩ | ⟨h1, h2, _⟩
    · subst h1; cases he
    · subst h1; simp [Value.ownBlock] at he; exact hn ⟨he, by omega⟩)⟩
  have hge : gg = gb ∨ w.heap.size ≤ gg := by
    rcases hgeq with h | h
    · left
      rcases ha.at_ with ⟨h1, _, _, _⟩ | ⟨h1, h2, _⟩
      · subst h1; simp [Value.ownBlock] at h
      · subst h1; simp [Value.ownBlock] at h; omega
    · right; omega
  have := h _ _ _ w' hacc hupd hge hlen'
  refine WL.value hg rfl hN (fun a hk' => ?_) this
  simp only [execOp, resolve, invoke, builtin]
  simp [hk'.ev hs, hk'.ev hx, append_two hu hu2, hr]

theorem t_appZ {t tn e : TypeId} {z : Value} {bytes k i m n c : Nat} {s x : Operand} {b off : Nat} {cs : List Value} {mv : Int}
    (hu : P.underlying t = some (.slice e)) (hun : P.underlying tn = some (.int .i64)) (hi : (P.info? e).map (fun i => (i.zero, i.size, i.bytes)) = some (some z, k, bytes)) (hz : z.cells.size = k) (hk0 : 0 < k)
    (hg : grd ops L g = true) (hN : Nat.blt d N = true) (hs : ev L s = some (.slice (some ⟨b, off, none⟩) i c)) (hx : ev L x = some (.int .i64 mv)) (hm : mv = (m : Int)) (hn : i + m = n) (hm0 : 0 < m) (hc : c < n)
    (hcs : cs.length = i * k) (ha : At w b off cs) (hsm : n ≤ 1000000) (hby : bytes ≤ 1000)
    (h : ∀ cap' w' zs, n ≤ cap' → cap' ≤ maxLen → List.length zs = (cap' - i) * k → Blk w' w.heap.size e (cs ++ zs) → Ext w w' → WL rd P ops Q N ds rest ((d, .slice (some ⟨w.heap.size, 0, none⟩) n cap') :: L) w') :
    WL rd P ops Q N ds (⟨some d, .call ⟨.builtin .append, #[s, x], #[t, tn]⟩, ty, pos, aft, g⟩ :: rest) L w := by
  subst hm hn
  obtain ⟨i0, hi0, hi1, hi2, hi3⟩ := info_parts' hi
  have hold : (Builtin.firstCells i0.size i (.slice (some ⟨b, off, none⟩) i c)).run P w.drew = .ok cs.toArray w.drew := by
    rw [hi2]
    exact run_firstCells_some (w := w.drew) k i ⟨b, off, none⟩ i c cs hcs (fun j v hj => by rw [addr_add]; exact ha j v hj)
  have hb1 : (i + m) * bytes ≤ 1000000 * 1000 := Nat.mul_le_mul hsm hby
  have hb2 : m * bytes ≤ 1000000 * 1000 := Nat.mul_le_mul (by omega) hby
  have hr := Lib.run_append_grow_zeros (P := P) w t tn ty e i0 z .i64 .i64 hu hun hi0 hi1 (some ⟨b, off, none⟩) i c cs hold m hm0 (by omega) hc (by omega) (by rw [hi3]; omega) (by rw [hi3]; exact growslice_fits hc (by omega))
  have hge := grownCap_ge w (i + m) c e
  have hle := grownCap_le_maxLen w (i + m) c e (by unfold maxLen; omega)
  generalize grownCap w (i + m) c e = G at hr hge hle
  have hzl : ∀ q, (Builtin.zeroCells z.cells q).size = q * k := fun q => by simp [Builtin.zeroCells, hz]
  have hB : Blk (w.drew.alloc (.cells (cs.toArray ++ Builtin.zeroCells z.cells m ++ Builtin.zeroCells z.cells (G - (i + m))) e)) w.heap.size e (cs ++ ((Builtin.zeroCells z.cells m).toList ++ (Builtin.zeroCells z.cells (G - (i + m))).toList)) := by
    have := Blk.new w.drew e (cs ++ ((Builtin.zeroCells z.cells m).toList ++ (Builtin.zeroCells z.cells (G - (i + m))).toList))
    have e2 : (cs ++ ((Builtin.zeroCells z.cells m).toList ++ (Builtin.zeroCells z.cells (G - (i + m))).toList)).toArray = cs.toArray ++ Builtin.zeroCells z.cells m ++ Builtin.zeroCells z.cells (G - (i + m)) := by
      apply Array.toList_inj.1; simp
    rw [e2] at this
    exact this
  refine WL.value hg rfl hN (fun a hk => ?_) (h G _ _ hge hle ?_ hB ((Upd.drew w).trans (Upd.alloc _ _)))
  · simp only [execOp, resolve, invoke, builtin]
    simp [hk.ev hs, hk.ev hx, hr]
  · simp only [List.length_append, Array.length_toList, hzl]
    rw [← Nat.add_mul]
    congr 1; omega

theorem t_apart {f : Operand} {k : FuncId} {fn : Func} {x y : Operand} {ats : Array TypeId} {tS tR e tA tB : TypeId} {a b oa ob la ca lb cb : Nat} {cA cB : List Value} {n : Nat}
    (hfn : P.funcs[k]? = some fn) (hname : (fn.name == "runtime.NumGoroutine") = false) (hb : fn.body.isNone = true) (hnx : Extern.findNext fn = none) (he : Extern.find fn = some (Extern.SlicesOverlaps.overlaps #[tS, tS] #[tR]))
    (hu : P.underlying tS = some (.slice e)) (hz : ∀ w, (sizeOf e).run P w = .ok n w) (hg : grd ops L g = true) (hN : Nat.blt d N = true) (hf : ev L f = some (.func (.func k) #[] #[]))
    (hx : ev L x = some (.slice (some ⟨a, oa, none⟩) la ca)) (hy : ev L y = some (.slice (some ⟨b, ob, none⟩) lb cb)) (hA : Blk w a tA cA) (hB : Blk w b tB cB) (hne : a ≠ b) (hl : 0 < cB.length)
    (h : WL rd P ops Q N ds rest ((d, .bool false) :: L) w) : WL rd P ops Q N ds (⟨some d, .call ⟨.value f, #[x, y], ats⟩, ty, pos, aft, g⟩ :: rest) L w := by
  refine WL.value hg rfl hN (fun ac hk => ?_) h
  have hsa : w.shape? a = some (tA, cA.length) := by unfold Blk at hA; simp [World.shape?, hA]
  have hsb : w.shape? b = some (tB, cB.length) := by unfold Blk at hB; simp [World.shape?, hB]
  have hr := Lib.run_overlaps_apart (P := P) w tS tR e hu n hz ⟨a, oa, none⟩ ⟨b, ob, none⟩ la ca lb cb hne tA tB cA.length cB.length hsa hsb (by omega) hA.free hA.free
  have hr2 := run_callFunc_extern hfn hname hb hnx he #[.slice (some ⟨a, oa, none⟩) la ca, .slice (some ⟨b, ob, none⟩) lb cb] w
  rw [hr] at hr2
  simp only [execOp, resolve, invoke]
  simp [hk.ev hf, hk.ev hx, hk.ev hy, Deferred.ofValue, invoke, hr2, Result.andThen]
end

theorem subAddr_some {b o cap l k : Nat} (h : l < cap) : subAddr (some ⟨b, o, none⟩) cap l k = some ⟨b, o + l * k, none⟩ := by
  unfold subAddr
  rw [if_neg (by omega)]
  exact congrArg some (addr_add b o (l * k))
theorem Acc.lower {α : Type} {enc : α → List Value} {k : Nat} {e : TypeId} {base base' : Nat} {w : World} {ao : Option Addr} {g cap : Nat} {xs : List α} (h : Acc enc k e base w ao g cap xs) (hb : base' ≤ base) (h0 : 0 < base') : ∃ g', Acc enc k e base' w ao g' cap xs := by
  rcases h.at_ with ⟨h1, h2, h3, h4⟩ | ⟨h1, h2, h3⟩
  · exact ⟨0, Nat.lt_of_le_of_lt (Nat.zero_le _) h.lt, .inl ⟨h1, h2, h3, h0⟩⟩
  · exact ⟨g, h.lt, .inr ⟨h1, by omega, h3⟩⟩
theorem Sl.cellsFrom {α : Type} [Inhabited α] {enc : α → List Value} {k : Nat} (hk0 : 0 < k) (hk : ∀ x, (enc x).length = k) {w : World} {ao : Option Addr} {b o : Nat} {xs : List α} (h : Sl enc k w ao b o xs) (l m : Nat) : At w b (o + l * k) (((xs.drop l).take m).flatMap enc) := fun j v hj => by
  have := sl_cells hk0 hk (h.sub xs.length l m (Nat.le_refl _)) j v hj
  rwa [addr_add] at this
theorem Acc.raw {α : Type} {enc : α → List Value} {k : Nat} {e : TypeId} {base : Nat} {w : World} {ao : Option Addr} {g cap : Nat} {xs : List α} (h : Acc enc k e base w ao g cap xs) (hp : 0 < cap ∨ 0 < xs.length) :
    ao = some ⟨g, 0, none⟩ ∧ base ≤ g ∧ xs.length ≤ cap ∧ cap ≤ maxLen ∧ ∃ cs, Blk w g e cs ∧ cs.length = cap * k ∧ cs.take (xs.length * k) = xs.flatMap enc := by
  rcases h.at_ with ⟨_, h1, h2, _⟩ | ⟨h1, h2, cur, h3, h4, h5, h6, h7⟩
  · subst h1 h2; rcases hp with hp | hp <;> exact absurd hp (by simp)
  · exact ⟨h1, h2, h4, h5, cur.toList, by unfold Blk; simpa using h3, by simpa using h6, h7⟩
theorem Acc.ofRaw {α : Type} {enc : α → List Value} {k : Nat} {e : TypeId} {base : Nat} {w : World} {g cap : Nat} {xs : List α} {cs : List Value} (hB : Blk w g e cs) (hb : base ≤ g) (hc : xs.length ≤ cap) (hm : cap ≤ maxLen) (hl : cs.length = cap * k) (ht : cs.take (xs.length * k) = xs.flatMap enc) : Acc enc k e base w (some ⟨g, 0, none⟩) g cap xs :=
  ⟨hB.lt, .inr ⟨rfl, hb, cs.toArray, hB, hc, hm, by simpa using hl, by simpa using ht⟩⟩
theorem lay_take : ∀ (vs cs : List Value) (i : Nat), i + vs.length ≤ cs.length → (lay cs i vs).take (i + vs.length) = cs.take i ++ vs
  | [], cs, i, _ => by simp [lay]
  | v :: vs, cs, i, h => by
    simp only [List.length_cons] at h
    show (lay (cs.set i v) (i + 1) vs).take (i + (vs.length + 1)) = _
    rw [show i + (vs.length + 1) = i + 1 + vs.length by omega, lay_take vs (cs.set i v) (i + 1) (by rw [List.length_set]; omega)]
    rw [List.take_set, show cs.take (i + 1) = cs.take i ++ [cs[i]'(by omega)] from (List.take_succ_eq_append_getElem (by omega)), List.set_append_right _ _ (by simp; omega)]
    simp [Nat.min_eq_left (show i ≤ cs.length by omega)]
theorem lay_drop : ∀ (vs cs : List Value) (i : Nat), (lay cs i vs).drop (i + vs.length) = cs.drop (i + vs.length)
  | [], cs, i => by simp [lay]
  | v :: vs, cs, i => by
    show (lay (cs.set i v) (i + 1) vs).drop (i + (vs.length + 1)) = _
    rw [show i + (vs.length + 1) = i + 1 + vs.length by omega, lay_drop vs (cs.set i v) (i + 1), List.drop_set_of_lt (by omega), show i + (v :: vs).length = i + 1 + vs.length by rw [List.length_cons]; omega]
theorem lay_eq {vs cs : List Value} {i : Nat} (h : i + vs.length ≤ cs.length) : lay cs i vs = cs.take i ++ vs ++ cs.drop (i + vs.length) := by
  rw [← lay_take vs cs i h, ← lay_drop vs cs i, List.take_append_drop]
theorem raw_take {α : Type} {enc : α → List Value} {k m : Nat} (hk : ∀ x, (enc x).length = k) {xs : List α} {C : List Value} (h : C.take (xs.length * k) = xs.flatMap enc) (hm : m ≤ xs.length) : C.take (m * k) = (xs.take m).flatMap enc := by
  have h9 := congrArg (List.take (m * k)) h
  rw [List.take_take, Nat.min_eq_left (Nat.mul_le_mul_right _ hm)] at h9
  rw [h9]
  have e : xs.flatMap enc = (xs.take m).flatMap enc ++ (xs.drop m).flatMap enc := by rw [← List.flatMap_append, List.take_append_drop]
  rw [e, List.take_left' (by rw [flatMap_len hk, List.length_take, Nat.min_eq_left hm])]
theorem ins_rawA {α : Type} {enc : α → List Value} {k m n : Nat} (hk : ∀ x, (enc x).length = k) {xs : List α} {s : α} {C : List Value} (hn : xs.length = n) (hm : m < n) (hC : (n + 1) * k ≤ C.length) (h1 : C.take (m * k) = (xs.take m).flatMap enc) :
    (lay (lay C (m * k) (enc s)) ((m + 1) * k) ((xs.drop m).flatMap enc)).take ((n + 1) * k) = (xs.take m ++ s :: xs.drop m).flatMap enc := by
  have l1 : ((xs.drop m).flatMap enc).length = (n - m) * k := by rw [flatMap_len hk, List.length_drop, hn]
  have e1 : (m + 1) * k = m * k + (enc s).length := by rw [hk, Nat.succ_mul]
  have e2 : (n + 1) * k = (m + 1) * k + ((xs.drop m).flatMap enc).length := by rw [l1, ← Nat.add_mul]; congr 1; omega
  have q1 : m * k + (enc s).length ≤ C.length := by rw [← e1]; exact Nat.le_trans (Nat.mul_le_mul_right _ (by omega)) hC
  rw [e2, lay_take _ _ _ (by rw [lay_length, ← e2]; exact hC), e1, lay_take _ _ _ q1, h1]
  simp
theorem ins_rawB {α : Type} {enc : α → List Value} {k m n : Nat} (hk : ∀ x, (enc x).length = k) {xs : List α} {s : α} {C : List Value} (hn : xs.length = n) (hm : m < n) (hC : (n + 1) * k ≤ C.length) (h1 : C.take (m * k) = (xs.take m).flatMap enc) :
    (lay (lay C ((m + 1) * k) ((xs.drop m).flatMap enc)) (m * k) (enc s)).take ((n + 1) * k) = (xs.take m ++ s :: xs.drop m).flatMap enc := by
  have l1 : ((xs.drop m).flatMap enc).length = (n - m) * k := by rw [flatMap_len hk, List.length_drop, hn]
  have e1 : (m + 1) * k = m * k + (enc s).length := by rw [hk, Nat.succ_mul]
  have e2 : (n + 1) * k = (m + 1) * k + ((xs.drop m).flatMap enc).length := by rw [l1, ← Nat.add_mul]; congr 1; omega
  have q2 : m * k ≤ (n + 1) * k := Nat.mul_le_mul_right _ (by omega)
  have q3 : (m + 1) * k ≤ (n + 1) * k := Nat.mul_le_mul_right _ (by omega)
  have hL : (lay C ((m + 1) * k) ((xs.drop m).flatMap enc)).length = C.length := lay_length _ _ _
  rw [lay_eq (by rw [hL, ← e1]; omega), ← e1]
  have t1 : (lay C ((m + 1) * k) ((xs.drop m).flatMap enc)).take ((n + 1) * k) = C.take ((m + 1) * k) ++ (xs.drop m).flatMap enc := by rw [e2]; exact lay_take _ _ _ (by rw [← e2]; exact hC)
  have t2 : (lay C ((m + 1) * k) ((xs.drop m).flatMap enc)).take (m * k) = C.take (m * k) := by
    have := congrArg (List.take (m * k)) t1
    rw [List.take_take, Nat.min_eq_left q2, List.take_append_of_le_length (by rw [List.length_take]; omega), List.take_take, Nat.min_eq_left (by rw [e1]; omega)] at this
    exact this
  have hlen : (C.take (m * k) ++ enc s).length = (m + 1) * k := by rw [List.length_append, List.length_take, e1]; omega
  rw [t2, List.take_append, hlen, List.take_of_length_le (by rw [hlen]; exact q3)]
  have t3 : ((lay C ((m + 1) * k) ((xs.drop m).flatMap enc)).drop ((m + 1) * k)).take ((n + 1) * k - (m + 1) * k) = (xs.drop m).flatMap enc := by
    have := congrArg (List.drop ((m + 1) * k)) t1
    rw [List.drop_take, List.drop_left' (by rw [List.length_take]; omega)] at this
    exact this
  rw [t3, h1]
  simp
end Go.Proofs.YtagmodjadmecdaaGreat
