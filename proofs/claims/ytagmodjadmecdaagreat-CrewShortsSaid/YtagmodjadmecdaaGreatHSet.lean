/-
  Maps with int keys, all true. Conditions: none; it holds over any program.
-/
import Derived.Test.YtagmodjadmecdaaGreatHAcc
namespace Go.Proofs.YtagmodjadmecdaaGreat
open Go Go.RowKit
def SetI (ks : List Int) (w : World) (r : Nat) : Prop := ∃ es c, w.heap[r]? = some (.map es c) ∧ es.toList.map (fun e => (e.key, e.val)) = ks.map (fun k => (Value.int .i64 k, Value.bool true))
theorem SetI.lt {ks : List Int} {w : World} {r : Nat} (h : SetI ks w r) : r < w.heap.size := by obtain ⟨es, c, h, _⟩ := h; exact lt_of_block h
theorem SetI.keep {ks : List Int} {w : World} {r : Nat} {w' : World} {S : Nat → Prop} (h : SetI ks w r) (u : Upd S w w') (hn : ¬ S r) : SetI ks w' r := by
  obtain ⟨es, c, h1, h2⟩ := h
  exact ⟨es, c, (u.block r (lt_of_block h1) hn).trans h1, h2⟩
theorem SetI.ofMemo {w : World} {r : Nat} (h : ∀ F, Memo F w r) : SetI [] w r := by
  obtain ⟨es, c, h1, h2⟩ := h (fun _ _ _ => False)
  refine ⟨es, c, h1, ?_⟩
  cases he : es.toList with
  | nil => rfl
  | cons e l => obtain ⟨_, _, _, hf⟩ := h2 e (by rw [he]; simp); exact hf.elim
theorem SetI.notBlk {ks : List Int} {w : World} {r b : Nat} {t : TypeId} {cs : List Value} (h : SetI ks w r) (hb : Blk w b t cs) : b ≠ r := fun e => by
  obtain ⟨es, c, h1, _⟩ := h
  subst e
  have h2 : w.heap[b]? = _ := hb
  rw [h1] at h2; cases h2
theorem findNowI {a : Int} : ∀ (ks : List Int) (es : List MapEntry) (i : Nat), es.map (fun e => (e.key, e.val)) = ks.map (fun k => (Value.int .i64 k, Value.bool true)) →
    (a ∈ ks → ∃ j, Instr.findNow (.int .i64) (.int .i64 a) es i = some (some (j, .bool true))) ∧ (a ∉ ks → Instr.findNow (.int .i64) (.int .i64 a) es i = some none)
  | [], [], i, _ => ⟨fun h => by simp at h, fun _ => rfl⟩
  | [], _ :: _, _, h => by simp at h
  | _ :: _, [], _, h => by simp at h
  | k :: ks, e :: es, i, h => by
    simp only [List.map_cons, List.cons.injEq, Prod.mk.injEq] at h
    obtain ⟨⟨hk, hv⟩, h⟩ := h
    obtain ⟨h1, h2⟩ := findNowI ks es (i + 1) h
    by_cases q : a = k
    · subst q
      refine ⟨fun _ => ⟨i, ?_⟩, fun hn => absurd (by simp) hn⟩
      simp [Instr.findNow, hk, hv, Instr.sameNow]
    · have hb : (a == k) = false := by simpa using q
      have hs : Instr.sameNow (.int .i64) (.int .i64 a) e.key = some false := by rw [hk]; simp [Instr.sameNow, q]
      refine ⟨fun hm => ?_, fun hn => ?_⟩
      · obtain ⟨j, hj⟩ := h1 (by simpa [q] using hm)
        exact ⟨j, by rw [Instr.findNow, hs]; exact hj⟩
      · have := h2 (fun hm => hn (by simp [hm]))
        rw [Instr.findNow, hs]; exact this
section steps
variable {rd : Option Nat} {P : Program} {ops : Array Oper} {Q : Exit → Act → World → Prop} {N : Nat} {ds : List Deferred} {rest : List Oper} {L : Slots} {w : World}
variable {d : Nat} {ty : TypeId} {pos : String} {aft : Array Edge} {g : Option (Nat × Bool)}
theorem findKeyI {K : TypeId} {ks : List Int} {es : List MapEntry} (hK : P.underlying K = some (.int .i64)) (h : es.map (fun e => (e.key, e.val)) = ks.map (fun k => (Value.int .i64 k, Value.bool true))) (a : Int) :
    (a ∈ ks → ∃ j, ∀ w, (Instr.findKey K (.int .i64 a) es).run P w = .ok (some (j, .bool true)) w) ∧ (a ∉ ks → ∀ w, (Instr.findKey K (.int .i64 a) es).run P w = .ok none w) := by
  obtain ⟨h1, h2⟩ := findNowI (a := a) ks es 0 h
  refine ⟨fun hm => ?_, fun hn w => ?_⟩
  · obtain ⟨j, hj⟩ := h1 hm
    exact ⟨j, fun w => by simp [Instr.findKey, run_underlying hK, hj]⟩
  · simp [Instr.findKey, run_underlying hK, h2 hn]
theorem checkKeyInI {K : TypeId} (hK : P.underlying K = some (.int .i64)) (em : Bool) (n : Nat) (a : Int) (w : World) : (Instr.checkKey em (n + 1) K (.int .i64 a)).run P w = .ok () w := by
  simp [Instr.checkKey, run_underlying hK]
theorem checkKeyI {K : TypeId} (hK : P.underlying K = some (.int .i64)) (em : Bool) (a : Int) (w : World) : (Instr.checkKey em 10000 K (.int .i64 a)).run P w = .ok () w :=
  checkKeyInI hK em 9999 a w
theorem t_lookupI {T K E : TypeId} {x i : Operand} {r : Nat} {a : Int} {ks : List Int} (hK : P.underlying K = some (.int .i64)) (hu : P.underlying T = some (.map K E)) (hz : ∀ w, (zeroValue E).run P w = .ok (.bool false) w)
    (hg : grd ops L g = true) (hN : Nat.blt d N = true) (hx : ev L x = some (.map (some r))) (hi : ev L i = some (.int .i64 a)) (hm : SetI ks w r)
    (h : WL rd P ops Q N ds rest ((d, .bool (decide (a ∈ ks))) :: L) w) : WL rd P ops Q N ds (⟨some d, .lookup T x i false, ty, pos, aft, g⟩ :: rest) L w := by
  obtain ⟨es, c, h1, h2⟩ := hm
  have hgo : (getObj r).run P w = .ok (.map es c) w := by simp [getObj, Sem.run, h1]
  obtain ⟨q1, q2⟩ := findKeyI hK h2 a
  by_cases hq : a ∈ ks
  · obtain ⟨j, hj⟩ := q1 hq
    rw [decide_eq_true hq] at h
    refine WL.value hg rfl hN (fun a hk => ?_) h
    simp only [execOp, hk.ev hx, hk.ev hi]
    simp [Instr.lookup, run_underlying hu, hgo, checkKeyI hK, hj]
  · have hj := q2 hq
    rw [decide_eq_false hq] at h
    refine WL.value hg rfl hN (fun a hk => ?_) h
    simp only [execOp, hk.ev hx, hk.ev hi]
    simp [Instr.lookup, run_underlying hu, hgo, checkKeyI hK, hj, hz]
theorem t_mapnewI {T K E : TypeId} {x i y : Operand} {r : Nat} {a : Int} {ks : List Int} (hK : P.underlying K = some (.int .i64)) (hu : P.underlying T = some (.map K E))
    (hg : grd ops L g = true) (hx : ev L x = some (.map (some r))) (hi : ev L i = some (.int .i64 a)) (hy : ev L y = some (.bool true)) (hm : SetI ks w r) (hn : a ∉ ks)
    (h : ∀ w', w'.heap.size = w.heap.size → SetI (ks ++ [a]) w' r → Upd (· = r) w w' → WL rd P ops Q N ds rest L w') : WL rd P ops Q N ds (⟨none, .mapUpdate T x i y, ty, pos, aft, g⟩ :: rest) L w := by
  obtain ⟨es, c, h1, h2⟩ := hm
  have hlt := lt_of_block h1
  have hgo : (getObj r).run P w = .ok (.map es c) w := by simp [getObj, Sem.run, h1]
  have hset : ∀ o, (setObj r o).run P w = .ok () { w with heap := w.heap.setIfInBounds r o } := fun o => by simp [setObj, Sem.run, h1]
  have hq := (findKeyI hK h2 a).2 hn
  refine WL.effect (w' := { w with heap := w.heap.setIfInBounds r (.map (es.push { key := .int .i64 a, val := .bool true, born := c }) (c + 1)) }) hg rfl (fun ac hk => ?_) (h _ (by simp) ⟨_, _, by simp [hlt]; exact ⟨rfl, rfl⟩, ?_⟩ ⟨rfl, rfl, rfl, by simp, fun k hk hn => by simp [Array.getElem?_setIfInBounds_ne (show r ≠ k from fun e => hn e.symm)]⟩)
  · simp only [execOp, hk.ev hx, hk.ev hi, hk.ev hy]
    simp [Instr.mapUpdate, run_underlying hu, hgo, checkKeyI hK, hq, hset]
  · rw [Array.toList_push, List.map_append, h2, List.map_append]; rfl
end steps
end Go.Proofs.YtagmodjadmecdaaGreat
