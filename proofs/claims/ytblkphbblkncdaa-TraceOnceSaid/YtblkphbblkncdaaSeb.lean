/-
  Maps with int keys, all true, to which a key is entered before its value. Conditions: none; it holds over any program.
-/
import Derived.Test.YtblkphbblkncdaaSet
namespace Go.Proofs.Ytblkphbblkncdaa
open Go Go.RowKit
/-- As SetI; all entries are older than the clock. -/
def SetB (ks : List Int) (w : World) (r : Nat) : Prop := ∃ es c, w.heap[r]? = some (.map es c) ∧ es.toList.map (fun e => (e.key, e.val)) = ks.map (fun k => (Value.int .i64 k, Value.bool true)) ∧ ∀ e ∈ es.toList, e.born < c
/-- A key is entered, its value not yet. -/
def SetP (ks : List Int) (a : Int) (b : Nat) (w : World) (r : Nat) : Prop := ∃ es : Array MapEntry, w.heap[r]? = some (.map (es.push { key := .int .i64 a, val := .bool false, born := b }) (b + 1)) ∧ es.toList.map (fun e => (e.key, e.val)) = ks.map (fun k => (Value.int .i64 k, Value.bool true)) ∧ ∀ e ∈ es.toList, e.born < b
theorem SetB.set {ks : List Int} {w : World} {r : Nat} (h : SetB ks w r) : SetI ks w r := by obtain ⟨es, c, h1, h2, _⟩ := h; exact ⟨es, c, h1, h2⟩
theorem SetB.keep {ks : List Int} {w : World} {r : Nat} {w' : World} {S : Nat → Prop} (h : SetB ks w r) (u : Upd S w w') (hn : ¬ S r) : SetB ks w' r := by
  obtain ⟨es, c, h1, h2⟩ := h
  exact ⟨es, c, (u.block r (lt_of_block h1) hn).trans h1, h2⟩
theorem SetB.ofMemo {w : World} {r : Nat} (h : ∀ F, Memo F w r) : SetB [] w r := by
  obtain ⟨es, c, h1, h2⟩ := SetI.ofMemo h
  refine ⟨es, c, h1, h2, fun e he => ?_⟩
  have : es.toList = [] := by simpa using h2
  rw [this] at he; cases he
section steps
variable {rd : Option Nat} {P : Program} {ops : Array Oper} {Q : Exit → Act → World → Prop} {N : Nat} {ds : List Deferred} {rest : List Oper} {L : Slots} {w : World}
variable {d : Nat} {ty : TypeId} {pos : String} {aft : Array Edge} {g : Option (Nat × Bool)}
theorem t_entryI {T K E : TypeId} {x i : Operand} {r : Nat} {a : Int} {ks : List Int} (hK : P.underlying K = some (.int .i64)) (hu : P.underlying T = some (.map K E)) (hz : ∀ w, (zeroValue E).run P w = .ok (.bool false) w)
    (hg : grd ops L g = true) (hN : Nat.blt d N = true) (hx : ev L x = some (.map (some r))) (hi : ev L i = some (.int .i64 a)) (hm : SetB ks w r) (hn : a ∉ ks)
    (h : ∀ b w', w'.heap.size = w.heap.size → SetP ks a b w' r → Upd (· = r) w w' → WL rd P ops Q N ds rest ((d, .tuple #[.bool false, goInt b]) :: L) w') : WL rd P ops Q N ds (⟨some d, .mapEntry T x i, ty, pos, aft, g⟩ :: rest) L w := by
  obtain ⟨es, c, h1, h2, h3⟩ := hm
  have hlt := lt_of_block h1
  have hgo : (getObj r).run P w = .ok (.map es c) w := by simp [getObj, Sem.run, h1]
  have hset : ∀ o, (setObj r o).run P w = .ok () { w with heap := w.heap.setIfInBounds r o } := fun o => by simp [setObj, Sem.run, h1]
  have hq := (findKeyI hK h2 a).2 hn
  refine WL.value (w' := { w with heap := w.heap.setIfInBounds r (.map (es.push { key := .int .i64 a, val := .bool false, born := c }) (c + 1)) }) hg rfl hN (fun ac hk => ?_) (h c _ (by simp) ⟨es, by simp [hlt], h2, h3⟩ ⟨rfl, rfl, rfl, by simp, fun k hk hn => by simp [Array.getElem?_setIfInBounds_ne (show r ≠ k from fun e => hn e.symm)]⟩)
  simp only [execOp, hk.ev hx, hk.ev hi]
  simp [Instr.mapEntry, run_underlying hu, hgo, checkKeyI hK, hq, hset, hz]
theorem findIdx_last {es : Array MapEntry} {b : Nat} (h : ∀ e ∈ es.toList, e.born < b) (e0 : MapEntry) (h0 : e0.born = b) : (es.push e0).findIdx? (fun e => (e.born : Int) == (b : Int)) = some es.size := by
  rw [Array.findIdx?_push, Array.findIdx?_eq_none_iff.2 (fun e he => by have := h e (by simpa using he); simp; omega)]
  simp [h0]
theorem t_enterI {T : TypeId} {x y z : Operand} {r b : Nat} {a : Int} {ks : List Int} (hg : grd ops L g = true) (hx : ev L x = some (.map (some r))) (hy : ev L y = some (goInt b)) (hz : ev L z = some (.bool true)) (hm : SetP ks a b w r)
    (h : ∀ w', w'.heap.size = w.heap.size → SetB (ks ++ [a]) w' r → Upd (· = r) w w' → WL rd P ops Q N ds rest L w') : WL rd P ops Q N ds (⟨none, .entryStore T x y z, ty, pos, aft, g⟩ :: rest) L w := by
  obtain ⟨es, h1, h2, h3⟩ := hm
  have hlt := lt_of_block h1
  have hgo : (getObj r).run P w = .ok (.map (es.push { key := .int .i64 a, val := .bool false, born := b }) (b + 1)) w := by simp [getObj, Sem.run, h1]
  have hset : ∀ o, (setObj r o).run P w = .ok () { w with heap := w.heap.setIfInBounds r o } := fun o => by simp [setObj, Sem.run, h1]
  have hf := findIdx_last h3 { key := .int .i64 a, val := .bool false, born := b } rfl
  have hmod : (es.push { key := .int .i64 a, val := .bool false, born := b }).modify es.size (fun e => { e with val := .bool true }) = es.push { key := .int .i64 a, val := .bool true, born := b } := by
    apply Array.ext
    · simp
    · intro i h1 h2
      rw [Array.getElem_modify]
      split
      · rename_i e; subst e; simp
      · rename_i hne
        have : i < es.size := by simp at h1; omega
        rw [Array.getElem_push_lt this, Array.getElem_push_lt this]
  refine WL.effect (w' := { w with heap := w.heap.setIfInBounds r (.map (es.push { key := .int .i64 a, val := .bool true, born := b }) (b + 1)) }) hg rfl (fun ac hk => ?_) (h _ (by simp) ⟨_, _, by simp [hlt]; exact ⟨rfl, rfl⟩, ?_, ?_⟩ ⟨rfl, rfl, rfl, by simp, fun k hk hn => by simp [Array.getElem?_setIfInBounds_ne (show r ≠ k from fun e => hn e.symm)]⟩)
  · simp only [execOp, hk.ev hx, hk.ev hy, hk.ev hz]
    simp [Instr.entryStore, hgo, asInt, asIntOf, goInt, hf, hmod, hset]
  · rw [Array.toList_push, List.map_append, h2, List.map_append]; rfl
  · intro e he
    rw [Array.toList_push] at he
    rcases List.mem_append.1 he with he | he
    · have := h3 e he; omega
    · rw [List.mem_singleton.1 he]; exact Nat.lt_succ_self b
end steps
end Go.Proofs.Ytblkphbblkncdaa
