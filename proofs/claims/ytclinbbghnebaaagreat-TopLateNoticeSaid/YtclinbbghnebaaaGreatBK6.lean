/-
  Part 6 of the proof: contracts and plain laws. Conditions: none.
-/
import Derived.Maps.RangeRun
import Derived.Shelf.SlSortCmp.WholeK
import Derived.Shelf.SlSortCmp.NoneTotal
import Derived.Ground.SlsfProg
import Derived.Test.YtclinbbghnebaaaGreatProg
import Derived.Test.YtclinbbghnebaaaGreatBK5
namespace Go.Proofs.YtclinbbghnebaaaGreat
open Go Go.RowKit
/-- How keys and values of a map are laid. -/
structure Cod (α β : Type) where
  k : α → Value
  v : β → Value
def kvG {α β : Type} (c : Cod α β) (p : α × β) : Value × Value := (c.k p.1, c.v p.2)
/-- In block r lies a map with these keys and values. -/
def MapG {α β : Type} (cd : Cod α β) (m : List (α × β)) (w : World) (r : Nat) : Prop := ∃ es c, w.heap[r]? = some (.map es c) ∧ es.toList.map (fun e => (e.key, e.val)) = m.map (kvG cd) ∧ (∀ e ∈ es.toList, e.born < c) ∧ (es.toList.map (·.born)).Nodup
section
variable {α β : Type} {cd : Cod α β}
theorem MapG.lt {m : List (α × β)} {w : World} {r : Nat} (h : MapG cd m w r) : r < w.heap.size := by obtain ⟨es, c, h, _⟩ := h; exact lt_of_block h
theorem MapG.keep {m : List (α × β)} {w w' : World} {r : Nat} {S : Nat → Prop} (h : MapG cd m w r) (u : Upd S w w') (hn : ¬ S r) : MapG cd m w' r := by
  obtain ⟨es, c, h1, h2⟩ := h
  exact ⟨es, c, (u.block r (lt_of_block h1) hn).trans h1, h2⟩
theorem MapG.ne {m : List (α × β)} {w : World} {r b : Nat} {c : Array Value} {t : TypeId} {f : Nat × Nat} (h : MapG cd m w r) (hb : w.heap[b]? = some (.cells c t f)) : r ≠ b := fun e => by
  obtain ⟨es, c, h1, _⟩ := h
  subst e; rw [h1] at hb; cases hb
theorem MapG.ofMemo {w : World} {r : Nat} (h : ∀ F, Memo F w r) : MapG cd [] w r := by
  obtain ⟨es, c, h1, h2⟩ := h (fun _ _ _ => False)
  have he : es.toList = [] := by
    cases he : es.toList with
    | nil => rfl
    | cons e l => obtain ⟨_, _, _, hf⟩ := h2 e (by rw [he]; simp); exact hf.elim
  exact ⟨es, c, h1, by rw [he]; rfl, by rw [he]; simp, by rw [he]; simp⟩
end
/-- Where a key stands, and its value. -/
def fG {α β : Type} [DecidableEq α] : List (α × β) → α → Nat → Option (Nat × β)
  | [], _, _ => none
  | p :: m, a, i => if a = p.1 then some (i, p.2) else fG m a (i + 1)
def gtG {α β : Type} [DecidableEq α] (m : List (α × β)) (a : α) : Option β := (fG m a 0).map (·.2)
def upG {α β : Type} [DecidableEq α] (m : List (α × β)) (a : α) (v : β) : List (α × β) := match fG m a 0 with
  | none => m ++ [(a, v)]
  | some p => m.set p.1 (a, v)
/-- What the key's type must know: whether two keys are one. -/
structure KeyOK (P : Program) (K : TypeId) {α β : Type} [DecidableEq α] (cd : Cod α β) : Prop where
  find : ∀ (m : List (α × β)) (es : List MapEntry) (a : α) (w : World), es.map (fun e => (e.key, e.val)) = m.map (kvG cd) → (Instr.findKey K (cd.k a) es).run P w = .ok ((fG m a 0).map fun p => (p.1, cd.v p.2)) w
  check : ∀ (em : Bool) (a : α) (w : World), (Instr.checkKey em 10000 K (cd.k a)).run P w = .ok () w
  stays : ∀ (a : α) (w : World), (Instr.keyThatStays (cd.k a) (cd.k a)).run P w = .ok (cd.k a) w
section
variable {α β : Type} [DecidableEq α] {cd : Cod α β}
theorem fG_at : ∀ (m : List (α × β)) (a : α) (i : Nat) {j : Nat} {v : β}, fG m a i = some (j, v) → i ≤ j ∧ m[j - i]? = some (a, v)
  | [], _, _, _, _, h => by cases h
  | p :: m, a, i, j, v, h => by
    unfold fG at h
    split at h
    · rename_i e
      simp only [Option.some.injEq, Prod.mk.injEq] at h
      obtain ⟨rfl, rfl⟩ := h
      refine ⟨Nat.le_refl _, ?_⟩
      rw [Nat.sub_self, e]; rfl
    · have := fG_at m a (i + 1) h
      refine ⟨by omega, ?_⟩
      rw [show j - i = (j - (i + 1)) + 1 by omega]
      simpa using this.2
end
section
variable {P : Program} {α β : Type} [DecidableEq α]
theorem findNowG {v : β → Value} {a : Int} : ∀ (m : List (Int × β)) (es : List MapEntry) (i : Nat), es.map (fun e => (e.key, e.val)) = m.map (kvG ⟨.int .i64, v⟩) → Instr.findNow (.int .i64) (.int .i64 a) es i = some ((fG m a i).map fun p => (p.1, v p.2))
  | [], [], i, _ => rfl
  | [], _ :: _, _, h => by simp at h
  | _ :: _, [], _, h => by simp at h
  | p :: m, e :: es, i, h => by
    simp only [List.map_cons, List.cons.injEq, kvG, Prod.mk.injEq] at h
    obtain ⟨⟨hk, hv⟩, h⟩ := h
    have ih := findNowG (a := a) m es (i + 1) h
    by_cases q : a = p.1
    · simp [Instr.findNow, hk, hv, Instr.sameNow, fG, q]
    · have hs : Instr.sameNow (.int .i64) (.int .i64 a) e.key = some false := by rw [hk]; simp [Instr.sameNow, q]
      rw [Instr.findNow, hs]
      simp only [fG, if_neg q]
      exact ih
theorem checkKeyN {K : TypeId} (hK : P.underlying K = some (.int .i64)) (em : Bool) (n : Nat) (a : Int) (w : World) : (Instr.checkKey em (n + 1) K (.int .i64 a)).run P w = .ok () w := by
  simp [Instr.checkKey, run_underlying hK]
theorem KeyOK.int {K : TypeId} (hK : P.underlying K = some (.int .i64)) (v : β → Value) : KeyOK P K (⟨.int .i64, v⟩ : Cod Int β) :=
  ⟨fun m es a w h => by simp [Instr.findKey, run_underlying hK, findNowG m es 0 h], fun em a w => checkKeyN hK em 9999 a w, fun a w => by simp [Instr.keyThatStays, Instr.sameBits]⟩
theorem askG {cd : Cod α β} {K : TypeId} (he : ∀ a b w, (Op.equal K (cd.k a) (cd.k b)).run P w = .ok (decide (a = b)) w) (a : α) (w : World) : ∀ (m : List (α × β)) (es : List MapEntry) (i : Nat), es.map (fun e => (e.key, e.val)) = m.map (kvG cd) →
    (Instr.findAsking K (cd.k a) es i).run P w = .ok ((fG m a i).map fun p => (p.1, cd.v p.2)) w
  | [], [], i, _ => by simp [Instr.findAsking, fG]
  | [], _ :: _, _, h => by simp at h
  | _ :: _, [], _, h => by simp at h
  | p :: m, e :: es, i, h => by
    simp only [List.map_cons, List.cons.injEq, kvG, Prod.mk.injEq] at h
    obtain ⟨⟨hk, hv⟩, h⟩ := h
    have ih := askG he a w m es (i + 1) h
    simp only [Instr.findAsking, Sem.run_bind, hk, he, Result.andThen_ok]
    by_cases q : a = p.1
    · simp [fG, q, hv]
    · simp only [fG, if_neg q, decide_eq_false q]
      simpa using ih
theorem KeyOK.str {cd : Cod α β} {K : TypeId} {fs : Array Field} (hu : P.underlying K = some (.struct fs)) (he : ∀ a b w, (Op.equal K (cd.k a) (cd.k b)).run P w = .ok (decide (a = b)) w)
    (hc : ∀ (em : Bool) (a : α) (w : World), (Instr.checkKey em 10000 K (cd.k a)).run P w = .ok () w) (hs : ∀ (a : α) (w : World), (Instr.keyThatStays (cd.k a) (cd.k a)).run P w = .ok (cd.k a) w) : KeyOK P K cd :=
  ⟨fun m es a w h => by
    cases m with
    | nil =>
      have : es = [] := by simpa using h
      subst this
      simp [Instr.findKey, run_underlying hu, Instr.findNow, fG]
    | cons p m =>
      cases es with
      | nil => simp at h
      | cons e es =>
        have ha := askG he a w (p :: m) (e :: es) 0 h
        simp only [Instr.findKey, Sem.run_bind, run_underlying hu, Result.andThen_ok, Instr.findNow, Instr.sameNow]
        exact ha, hc, hs⟩
end
section steps
variable {rd : Option Nat} {P : Program} {ops : Array Oper} {Q : Exit → Act → World → Prop} {N : Nat} {ds : List Deferred} {rest : List Oper} {L : Slots} {w : World}
variable {α β : Type} [DecidableEq α] {cd : Cod α β}
variable {d : Nat} {ty : TypeId} {pos : String} {aft : Array Edge} {g : Option (Nat × Bool)}
/-- m[a], and whether it is there. -/
theorem t_lookG {T K E : TypeId} {x i : Operand} {r : Nat} {a : α} {z : Value} {m : List (α × β)} (hK : KeyOK P K cd) (hu : P.underlying T = some (.map K E)) (hz : ∀ w, (zeroValue E).run P w = .ok z w)
    (hg : grd ops L g = true) (hN : Nat.blt d N = true) (hx : ev L x = some (.map (some r))) (hi : ev L i = some (cd.k a)) (hm : MapG cd m w r)
    (h0 : gtG m a = none → WL rd P ops Q N ds rest ((d, .tuple #[z, .bool false]) :: L) w) (h1 : ∀ v, gtG m a = some v → WL rd P ops Q N ds rest ((d, .tuple #[cd.v v, .bool true]) :: L) w) : WL rd P ops Q N ds (⟨some d, .lookup T x i true, ty, pos, aft, g⟩ :: rest) L w := by
  obtain ⟨es, c, q1, q2, _⟩ := hm
  have hgo : (getObj r).run P w = .ok (.map es c) w := by simp [getObj, Sem.run, q1]
  have hj := fun w => hK.find m es.toList a w q2
  unfold gtG at h0 h1
  cases hf : fG m a 0 with
  | none =>
    rw [hf] at h0 hj
    refine WL.value hg rfl hN (fun a hk => ?_) (h0 rfl)
    simp only [execOp, hk.ev hx, hk.ev hi]
    simp [Instr.lookup, run_underlying hu, hgo, hK.check, hj, hz]
  | some p =>
    rw [hf] at h1 hj
    refine WL.value hg rfl hN (fun a hk => ?_) (h1 p.2 rfl)
    simp only [execOp, hk.ev hx, hk.ev hi]
    simp [Instr.lookup, run_underlying hu, hgo, hK.check, hj]
/-- m[a]. -/
theorem t_getG {T K E : TypeId} {x i : Operand} {r : Nat} {a : α} {z : Value} {m : List (α × β)} (hK : KeyOK P K cd) (hu : P.underlying T = some (.map K E)) (hz : ∀ w, (zeroValue E).run P w = .ok z w)
    (hg : grd ops L g = true) (hN : Nat.blt d N = true) (hx : ev L x = some (.map (some r))) (hi : ev L i = some (cd.k a)) (hm : MapG cd m w r)
    (h : WL rd P ops Q N ds rest ((d, match gtG m a with | some v => cd.v v | none => z) :: L) w) : WL rd P ops Q N ds (⟨some d, .lookup T x i false, ty, pos, aft, g⟩ :: rest) L w := by
  obtain ⟨es, c, q1, q2, _⟩ := hm
  have hgo : (getObj r).run P w = .ok (.map es c) w := by simp [getObj, Sem.run, q1]
  have hj := fun w => hK.find m es.toList a w q2
  unfold gtG at h
  cases hf : fG m a 0 with
  | none =>
    rw [hf] at h hj
    refine WL.value hg rfl hN (fun a hk => ?_) h
    simp only [execOp, hk.ev hx, hk.ev hi]
    simp [Instr.lookup, run_underlying hu, hgo, hK.check, hj, hz]
  | some p =>
    rw [hf] at h hj
    refine WL.value hg rfl hN (fun a hk => ?_) h
    simp only [execOp, hk.ev hx, hk.ev hi]
    simp [Instr.lookup, run_underlying hu, hgo, hK.check, hj]
/-- m[a] = v. -/
theorem t_mapG {T K E : TypeId} {x i y : Operand} {r : Nat} {a : α} {v : β} {m : List (α × β)} (hK : KeyOK P K cd) (hu : P.underlying T = some (.map K E))
    (hg : grd ops L g = true) (hx : ev L x = some (.map (some r))) (hi : ev L i = some (cd.k a)) (hy : ev L y = some (cd.v v)) (hm : MapG cd m w r)
    (h : ∀ w', w'.heap.size = w.heap.size → MapG cd (upG m a v) w' r → Upd (· = r) w w' → WL rd P ops Q N ds rest L w') : WL rd P ops Q N ds (⟨none, .mapUpdate T x i y, ty, pos, aft, g⟩ :: rest) L w := by
  obtain ⟨es, c, h1, h2, h3, h4⟩ := hm
  have hlt := lt_of_block h1
  have hgo : (getObj r).run P w = .ok (.map es c) w := by simp [getObj, Sem.run, h1]
  have hset : ∀ o, (setObj r o).run P w = .ok () { w with heap := w.heap.setIfInBounds r o } := fun o => by simp [setObj, Sem.run, h1]
  have hupd : ∀ o, Upd (· = r) w { w with heap := w.heap.setIfInBounds r o } := fun o => ⟨rfl, rfl, rfl, by simp, fun k hk hn => by simp [Array.getElem?_setIfInBounds_ne (show r ≠ k from fun e => hn e.symm)]⟩
  have hj := fun w => hK.find m es.toList a w h2
  unfold upG at h
  cases hf : fG m a 0 with
  | none =>
    rw [hf] at h hj
    refine WL.effect (w' := { w with heap := w.heap.setIfInBounds r (.map (es.push { key := cd.k a, val := cd.v v, born := c }) (c + 1)) }) hg rfl (fun ac hk => ?_) (h _ (by simp) ⟨_, _, by simp [hlt]; exact ⟨rfl, rfl⟩, ?_, ?_, ?_⟩ (hupd _))
    · simp only [execOp, hk.ev hx, hk.ev hi, hk.ev hy]
      simp [Instr.mapUpdate, run_underlying hu, hgo, hK.check, hj, hset]
    · rw [Array.toList_push, List.map_append, h2, List.map_append]; rfl
    · intro e he
      rw [Array.toList_push] at he
      rcases List.mem_append.1 he with he | he
      · have := h3 e he; omega
      · rw [List.mem_singleton.1 he]; exact Nat.lt_succ_self c
    · rw [Array.toList_push, List.map_append, List.nodup_append]
      refine ⟨h4, by simp, fun x hx y hy e => ?_⟩
      obtain ⟨q, hq, rfl⟩ := List.mem_map.1 hx
      have h5 := h3 q hq
      simp at hy
      omega
  | some p =>
    obtain ⟨j, u⟩ := p
    rw [hf] at h hj
    simp only [] at h
    have hmod : ∀ (q : Nat), (es.toList.modify j fun e => { e with key := cd.k a, val := cd.v v })[q]? = if j = q then (es.toList[q]?).map (fun e => { e with key := cd.k a, val := cd.v v }) else es.toList[q]? := fun q => by
      rw [List.getElem?_modify]
      by_cases hq : j = q
      · simp [hq]
      · simp [hq]
    have hat := fG_at m a 0 hf
    rw [Nat.sub_zero] at hat
    have hjl : j < es.toList.length := by
      have h6 := congrArg List.length h2
      rw [List.length_map, List.length_map] at h6
      have := (List.getElem?_eq_some_iff.1 hat.2).1
      omega
    have hjs : j < es.size := by simpa using hjl
    have hek : (es[j]?).map (·.key) = some (cd.k a) := by
      have h7 : (es.toList.map (fun e => (e.key, e.val)))[j]? = (m.map (kvG cd))[j]? := by rw [h2]
      rw [List.getElem?_map, List.getElem?_map, hat.2] at h7
      rw [Array.getElem?_toList] at h7
      cases he : es[j]? with
      | none => rw [he] at h7; cases h7
      | some e => rw [he] at h7; simp [kvG] at h7; simp [h7.1]
    have hkey : ((es[j]?).map (·.key)).getD (cd.k a) = cd.k a := by rw [hek]; rfl
    have hsame := fun w => hK.stays a w
    have hml : (es.modify j fun e => { e with key := cd.k a, val := cd.v v }).toList = es.toList.modify j fun e => { e with key := cd.k a, val := cd.v v } := by simp
    refine WL.effect (w' := { w with heap := w.heap.setIfInBounds r (.map (es.modify j fun e => { e with key := cd.k a, val := cd.v v }) c) }) hg rfl (fun ac hk => ?_) (h _ (by simp) ⟨_, _, by simp [hlt]; exact ⟨rfl, rfl⟩, ?_, ?_, ?_⟩ (hupd _))
    · simp only [execOp, hk.ev hx, hk.ev hi, hk.ev hy]
      simp only [Instr.mapUpdate]
      simp [run_underlying hu, hgo, hK.check, hj, hset, hkey, hsame]
    · rw [hml]
      refine List.ext_getElem? fun q => ?_
      rw [List.getElem?_map, hmod, List.getElem?_map]
      have h7 : (es.toList.map (fun e => (e.key, e.val)))[q]? = (m.map (kvG cd))[q]? := by rw [h2]
      rw [List.getElem?_map, List.getElem?_map] at h7
      by_cases hq : j = q
      · subst hq
        rw [if_pos rfl, List.getElem?_set_self (by rw [← List.length_map (f := kvG cd), ← h2, List.length_map]; exact hjl), List.getElem?_eq_getElem hjl]; rfl
      · rw [if_neg hq, List.getElem?_set_ne hq]
        cases he : es.toList[q]? with
        | none => rw [he] at h7; simpa using h7
        | some e => rw [he] at h7; simpa using h7
    · intro e he
      rw [hml] at he
      obtain ⟨q, hq⟩ := List.getElem?_of_mem he
      rw [hmod] at hq
      cases h8 : es.toList[q]? with
      | none => rw [h8] at hq; simp at hq
      | some e0 =>
        rw [h8] at hq
        have h9 := h3 e0 (List.mem_of_getElem? h8)
        split at hq
        · simp only [Option.map_some, Option.some.injEq] at hq; subst hq; exact h9
        · simp only [Option.some.injEq] at hq; subst hq; exact h9
    · have hb : (es.modify j fun e => { e with key := cd.k a, val := cd.v v }).toList.map (·.born) = es.toList.map (·.born) := by
        rw [hml]
        refine List.ext_getElem? fun q => ?_
        rw [List.getElem?_map, hmod, List.getElem?_map]
        split
        · cases es.toList[q]? <;> rfl
        · rfl
      rw [hb]; exact h4
end steps
section steps2
variable {rd : Option Nat} {P : Program} {ops : Array Oper} {Q : Exit → Act → World → Prop} {N : Nat} {ds : List Deferred} {rest : List Oper} {L : Slots} {w : World}
variable {α β : Type} {cd : Cod α β}
variable {d : Nat} {ty : TypeId} {pos : String} {aft : Array Edge} {g : Option (Nat × Bool)}
/-- A range over the map in block r is under way, its iterator lies in block it; these entries are to come. -/
def ItG {α β : Type} (cd : Cod α β) (m left : List (α × β)) (w : World) (r it : Nat) : Prop := ∃ es c since seen c0, w.heap[r]? = some (.map es c) ∧ es.toList.map (fun e => (e.key, e.val)) = m.map (kvG cd) ∧ (es.toList.map (·.born)).Nodup ∧ w.heap[it]? = some (.mapIter (some r) since seen c0) ∧ (∀ e ∈ es.toList, e.born < since) ∧ since ≤ c0 ∧ since ≤ c ∧ (leftOf es seen).toList.map (fun e => (e.key, e.val)) = left.map (kvG cd)
/-- The same, and this entry has just come. -/
def ItH {α β : Type} (cd : Cod α β) (m left : List (α × β)) (p : α × β) (w : World) (r it : Nat) : Prop := ItG cd m left w r it ∧ ∃ (es : Array MapEntry) (c since : Nat) (seen : Array Nat) (e : MapEntry), w.heap[r]? = some (.map es c) ∧ w.heap[it]? = some (.mapIter (some r) since (seen.push e.born) c) ∧ e ∈ es.toList ∧ (es.toList.map (·.born)).Nodup ∧ (e.key, e.val) = (kvG cd) p
theorem ItG.keep {m left : List (α × β)} {w w' : World} {r it : Nat} {S : Nat → Prop} (h : ItG cd m left w r it) (u : Upd S w w') (h1 : ¬ S r) (h2 : ¬ S it) : ItG cd m left w' r it := by
  obtain ⟨es, c, since, seen, c0, q1, q2, q3, q4, q5⟩ := h
  exact ⟨es, c, since, seen, c0, (u.block r (lt_of_block q1) h1).trans q1, q2, q3, (u.block it (lt_of_block q4) h2).trans q4, q5⟩
theorem ItG.same {m left : List (α × β)} {w w' : World} {r it : Nat} (h : ItG cd m left w r it) (h1 : w'.heap[r]? = w.heap[r]?) (h2 : w'.heap[it]? = w.heap[it]?) : ItG cd m left w' r it := by
  obtain ⟨es, c, since, seen, c0, q1, q2, q3, q4, q5⟩ := h
  exact ⟨es, c, since, seen, c0, h1.trans q1, q2, q3, h2.trans q4, q5⟩
theorem ItG.map {m left : List (α × β)} {w : World} {r it : Nat} (h : ItG cd m left w r it) : ∃ a b, w.heap[r]? = some (.map a b) := by obtain ⟨es, c, since, seen, c0, q1, q2, q3, q4, q5⟩ := h; exact ⟨_, _, q1⟩
theorem t_rangeG {T K E : TypeId} {x : Operand} {r : Nat} {m : List (α × β)} (hu : P.underlying T = some (.map K E)) (hg : grd ops L g = true) (hN : Nat.blt d N = true) (hx : ev L x = some (.map (some r))) (hm : MapG cd m w r)
    (h : ∀ it w', it = w.heap.size → w'.heap.size = w.heap.size + 1 → ItG cd m m w' r it → Ext w w' → WL rd P ops Q N ds rest ((d, .pointer (some ⟨it, 0, none⟩)) :: L) w') : WL rd P ops Q N ds (⟨some d, .range T x, ty, pos, aft, g⟩ :: rest) L w := by
  obtain ⟨es, c, h1, h2, h3, h4⟩ := hm
  have hlt := lt_of_block h1
  refine WL.value hg rfl hN (fun a hk => ?_) (h w.heap.size _ rfl (by simp) ⟨es, c, c, #[], c, (Below.heap_alloc _ _ _ hlt).trans h1, h2, h4, heap_alloc_new _ _, h3, Nat.le_refl _, Nat.le_refl _, by rw [show leftOf es #[] = es by simp [leftOf]]; exact h2⟩ (Upd.alloc _ _))
  simp only [execOp, hk.ev hx]
  simp [run_range_map w T K E r es c hu h1]
theorem filter_cut {l : List MapEntry} {e : MapEntry} (hn : (l.map (·.born)).Nodup) {p : MapEntry → Bool} (he : e ∈ l.filter p) : ∃ l1 l2, l.filter p = l1 ++ e :: l2 ∧ l.filter (fun x => p x && !(x.born == e.born)) = l1 ++ l2 := by
  obtain ⟨l1, l2, h⟩ := List.append_of_mem he
  refine ⟨l1, l2, h, ?_⟩
  have hn2 : ((l.filter p).map (·.born)).Nodup := hn.sublist (List.Sublist.map _ List.filter_sublist)
  have hff : l.filter (fun x => p x && !(x.born == e.born)) = (l.filter p).filter (fun x => !(x.born == e.born)) := by
    rw [List.filter_filter]
    congr 1
    funext x
    exact Bool.and_comm _ _
  rw [hff, h]
  rw [h, List.map_append, List.map_cons, List.nodup_append] at hn2
  obtain ⟨n1, n2, n3⟩ := hn2
  rw [List.nodup_cons] at n2
  rw [List.filter_append, List.filter_cons]
  have f1 : l1.filter (fun x => !(x.born == e.born)) = l1 := by
    rw [List.filter_eq_self]
    intro x hx
    have := n3 x.born (List.mem_map.2 ⟨x, hx, rfl⟩) e.born (by simp)
    simpa using this
  have f2 : l2.filter (fun x => !(x.born == e.born)) = l2 := by
    rw [List.filter_eq_self]
    intro x hx
    have : x.born ≠ e.born := fun q => n2.1 (by rw [← q]; exact List.mem_map.2 ⟨x, hx, rfl⟩)
    simpa using this
  simp [f1, f2]
theorem t_nextG {x : Operand} {r it : Nat} {m left : List (α × β)} (hg : grd ops L g = true) (hN : Nat.blt d N = true) (hx : ev L x = some (.pointer (some ⟨it, 0, none⟩))) (hm : ItG cd m left w r it)
    (h0 : left = [] → WL rd P ops Q N ds rest ((d, .tuple #[.bool false]) :: L) w)
    (h1 : ∀ l1 p l2 w', left = l1 ++ p :: l2 → w'.heap.size = w.heap.size → ItH cd m (l1 ++ l2) p w' r it → Upd (· = it) w w' → WL rd P ops Q N ds rest ((d, .tuple #[.bool true, cd.k p.1, cd.v p.2]) :: L) w') : WL rd P ops Q N ds (⟨some d, .next x false, ty, pos, aft, g⟩ :: rest) L w := by
  obtain ⟨es, c, since, seen, c0, q1, q2, q3, q4, q5, q6, q7, q8⟩ := hm
  have hex : ∀ a, Kn N ds L a → execOp a.eval ⟨some d, .next x false, ty, pos, aft, g⟩ = (do let v ← Instr.next (.pointer (some ⟨it, 0, none⟩)) false ty; pure (.value v)) := fun a hk => by
    simp only [execOp, hk.ev hx]
  rcases run_next_at (P := P) w ty it r since c0 seen es c q4 q1 q5 q6 with ⟨s0, hrun⟩ | ⟨e, he, w1, hal, hrun⟩
  · have hl : left = [] := by
      have : (leftOf es seen).toList = [] := by
        have := Array.eq_empty_of_size_eq_zero s0
        rw [this]
      rw [this] at q8
      simpa using q8.symm
    refine WL.value hg rfl hN (fun a hk => ?_) (h0 hl)
    rw [hex a hk]; simp [hrun]
  · have hlf : (leftOf es seen).toList = es.toList.filter fun e => !seen.contains e.born := by simp [leftOf]
    rw [hlf] at he q8
    obtain ⟨l1, l2, c1, c2⟩ := filter_cut q3 he
    have hem : e ∈ es.toList := (List.mem_filter.1 he).1
    rw [c1, List.map_append, List.map_cons] at q8
    obtain ⟨m1, m', e1, e2, e3⟩ := List.map_eq_append_iff.1 q8.symm
    obtain ⟨p, m2, e4, e5, e6⟩ := List.map_eq_cons_iff.1 e3
    have hr1 : w1.heap[it]? = some (.mapIter (some r) since seen c0) := by rcases hal with rfl | rfl <;> exact q4
    have hb1 : w1.heap[r]? = some (.map es c) := by rcases hal with rfl | rfl <;> exact q1
    have hne : r ≠ it := fun q => by rw [q, q4] at q1; cases q1
    have hset : (ChangeMaps.setBlock w1 it (.mapIter (some r) since (seen.push e.born) c)).heap[it]? = some (.mapIter (some r) since (seen.push e.born) c) ∧ ∀ k, k ≠ it → (ChangeMaps.setBlock w1 it (.mapIter (some r) since (seen.push e.born) c)).heap[k]? = w1.heap[k]? := MapKept.heap_set hr1
    have hb2 := (hset.2 r hne).trans hb1
    have hup : Upd (· = it) w (ChangeMaps.setBlock w1 it (.mapIter (some r) since (seen.push e.born) c)) := by
      rcases hal with rfl | rfl <;> exact ⟨rfl, rfl, rfl, by simp [ChangeMaps.setBlock], fun k _ hn => hset.2 k hn⟩
    have hsz : (ChangeMaps.setBlock w1 it (.mapIter (some r) since (seen.push e.born) c)).heap.size = w.heap.size := by rcases hal with rfl | rfl <;> simp [ChangeMaps.setBlock]
    have hl2 : (leftOf es (seen.push e.born)).toList = l1 ++ l2 := by
      rw [← c2]
      simp only [leftOf, Array.toList_filter]
      congr 1
      funext x
      rw [contains_push]
      cases seen.contains x.born <;> simp
    have hN1 : ItH cd m (m1 ++ m2) p (ChangeMaps.setBlock w1 it (.mapIter (some r) since (seen.push e.born) c)) r it := by
      refine ⟨⟨es, c, since, seen.push e.born, c, hb2, q2, q3, hset.1, q5, q7, q7, ?_⟩, es, c, since, seen, e, hb2, hset.1, hem, q3, e5.symm⟩
      rw [hl2, List.map_append, List.map_append, e2, e6]
    have hfin := h1 m1 p m2 _ (by rw [e1, e4]) hsz hN1 hup
    refine WL.value hg rfl hN (fun a hk => ?_) hfin
    rw [hex a hk]
    have k1 : e.key = cd.k p.1 := (congrArg Prod.fst e5).symm
    have k2 : e.val = cd.v p.2 := (congrArg Prod.snd e5).symm
    simp [hrun, k1, k2]
theorem t_entryG {x : Operand} {r it : Nat} {m left : List (α × β)} {p : α × β} (hg : grd ops L g = true) (hN : Nat.blt d N = true) (hx : ev L x = some (.pointer (some ⟨it, 0, none⟩))) (hm : ItH cd m left p w r it)
    (h : WL rd P ops Q N ds rest ((d, .tuple #[cd.k p.1, cd.v p.2]) :: L) w) : WL rd P ops Q N ds (⟨some d, .entry x, ty, pos, aft, g⟩ :: rest) L w := by
  obtain ⟨_, es, c, since, seen, e, q1, q2, q3, q4, q5⟩ := hm
  have hr := run_entry_at (P := P) w it r since seen es c e q2 q1 q3 q4
  have k1 : e.key = cd.k p.1 := congrArg Prod.fst q5
  have k2 : e.val = cd.v p.2 := congrArg Prod.snd q5
  rw [k1, k2] at hr
  exact WL.value hg rfl hN (fun a hk => by simp only [execOp, hk.ev hx]; simp [hr]) h
end steps2
end Go.Proofs.YtclinbbghnebaaaGreat
namespace Go.Proofs.YtclinbbghnebaaaGreat
open Go Go.RowKit Go.Proofs.Tryz
set_option maxRecDepth 10000

/-- The edition and the key of a message. -/
def edK (m : Msg) : Int × Int × Int := (m.c, m.n, m.r)
def keK (m : Msg) : Int × Int := (m.c, m.n)
def cd3 : Cod (Int × Int × Int) Msg := ⟨fun a => .agg #[.int .i64 a.1, .int .i64 a.2.1, .int .i64 a.2.2], fun m => .agg (encMsg m).toArray⟩
def cd2 : Cod (Int × Int) Msg := ⟨fun a => .agg #[.int .i64 a.1, .int .i64 a.2], fun m => .agg (encMsg m).toArray⟩
/-- The editions, and the latest ones, of the first messages. -/
def edS (l : List Msg) : Nat → List ((Int × Int × Int) × Msg)
  | 0 => []
  | k + 1 => upG (edS l k) (edK (nth l k)) (nth l k)
def laOld (m : List ((Int × Int) × Msg)) (x : Msg) : Bool := match gtG m (keK x) with
  | none => true
  | some v => decide (v.r < x.r)
def laS (l : List Msg) : Nat → List ((Int × Int) × Msg)
  | 0 => []
  | k + 1 => if laOld (laS l k) (nth l k) = true then upG (laS l k) (keK (nth l k)) (nth l k) else laS l k
/-- Another message with the same edition. -/
def edErr (l : List Msg) (k : Nat) : Prop := ∃ o, gtG (edS l k) (edK (nth l k)) = some o ∧ o ≠ nth l k
/-- Facts in order. -/
def cmpF (a b : Msg) : Int := or3 (cmpI3 a.c b.c) (cmpI3 a.m b.m) (cmpI3 a.n b.n)
theorem cmpF_lt {a b : Msg} : cmpF a b < 0 ↔ a.c < b.c ∨ (a.c = b.c ∧ (a.m < b.m ∨ (a.m = b.m ∧ a.n < b.n))) := by
  unfold cmpF; rw [or3_lt, cmp_lt, cmp_eq, cmp_lt, cmp_eq, cmp_lt]
theorem cmpF_swo : Go.Sort.SWO (ltOf cmpF) where
  irrefl x := by unfold ltOf; rw [decide_eq_false_iff_not, cmpF_lt]; omega
  trans x y z h1 h2 := by
    unfold ltOf at *
    rw [decide_eq_true_eq, cmpF_lt] at *
    omega
  ntrans x y z h1 h2 := by
    unfold ltOf at *
    rw [decide_eq_false_iff_not, cmpF_lt] at *
    omega
/-- What messages report. -/
def rdE (l : List Msg) : Int := if 100 < l.length then 5 else if (l.any fun m => !okMsg m) = true then 2 else 0
def RdR (l : List Msg) (out : List Msg) (e : Int) : Prop := (rdE l ≠ 0 ∧ e = rdE l ∧ out = []) ∨ (rdE l = 0 ∧ e = 6 ∧ out = [] ∧ ∃ k, k < l.length ∧ edErr l k) ∨
  (rdE l = 0 ∧ e = 0 ∧ (∀ k, k < l.length → ¬ edErr l k) ∧ out.Perm (((laS l l.length).map (·.2)).filter fun m => decide (m.k ≠ 7)) ∧ Asc cmpF out)
theorem Msg.eq6 {a b : Msg} (h : a.c = b.c ∧ a.n = b.n ∧ a.r = b.r ∧ a.k = b.k ∧ a.m = b.m ∧ a.v = b.v) : a = b := by
  cases a; cases b; simp_all
theorem own169 : Own Tryz.prog 169 := ⟨Tryz.f169, func169, by kernel_rfl, by kernel_rfl⟩

theorem eqIn135 (n : Nat) (a0 : Int) (a1 : Int) (a2 : Int) (a3 : Int) (a4 : Int) (a5 : Int) (b0 : Int) (b1 : Int) (b2 : Int) (b3 : Int) (b4 : Int) (b5 : Int) (w : World) : (Op.equalIn (n + 2) 135 (.agg #[.int .i64 a0, .int .i64 a1, .int .i64 a2, .int .i64 a3, .int .i64 a4, .int .i64 a5]) (.agg #[.int .i64 b0, .int .i64 b1, .int .i64 b2, .int .i64 b3, .int .i64 b4, .int .i64 b5])).run Tryz.prog w = .ok (decide (a0 = b0) && decide (a1 = b1) && decide (a2 = b2) && decide (a3 = b3) && decide (a4 = b4) && decide (a5 = b5)) w := by
  have hS : Tryz.prog.underlying 135 = some (.struct (Tryz.prog.fieldsOf 135)) := by kernel_rfl
  have hp : Tryz.prog.stoodInHeld 135 = false := by kernel_rfl
  have p0 : ∀ (a0 : Int) (a1 : Int) (a2 : Int) (a3 : Int) (a4 : Int) (a5 : Int), (part 3 #[.int .i64 a0, .int .i64 a1, .int .i64 a2, .int .i64 a3, .int .i64 a4, .int .i64 a5] 0).run Tryz.prog w = .ok (.int .i64 a0) w := fun _ _ _ _ _ _ => by simp [part, isAgg3]
  have p1 : ∀ (a0 : Int) (a1 : Int) (a2 : Int) (a3 : Int) (a4 : Int) (a5 : Int), (part 3 #[.int .i64 a0, .int .i64 a1, .int .i64 a2, .int .i64 a3, .int .i64 a4, .int .i64 a5] 1).run Tryz.prog w = .ok (.int .i64 a1) w := fun _ _ _ _ _ _ => by simp [part, isAgg3]
  have p2 : ∀ (a0 : Int) (a1 : Int) (a2 : Int) (a3 : Int) (a4 : Int) (a5 : Int), (part 3 #[.int .i64 a0, .int .i64 a1, .int .i64 a2, .int .i64 a3, .int .i64 a4, .int .i64 a5] 2).run Tryz.prog w = .ok (.int .i64 a2) w := fun _ _ _ _ _ _ => by simp [part, isAgg3]
  have p3 : ∀ (a0 : Int) (a1 : Int) (a2 : Int) (a3 : Int) (a4 : Int) (a5 : Int), (part 133 #[.int .i64 a0, .int .i64 a1, .int .i64 a2, .int .i64 a3, .int .i64 a4, .int .i64 a5] 3).run Tryz.prog w = .ok (.int .i64 a3) w := fun _ _ _ _ _ _ => by simp [part, isAgg133]
  have p4 : ∀ (a0 : Int) (a1 : Int) (a2 : Int) (a3 : Int) (a4 : Int) (a5 : Int), (part 3 #[.int .i64 a0, .int .i64 a1, .int .i64 a2, .int .i64 a3, .int .i64 a4, .int .i64 a5] 4).run Tryz.prog w = .ok (.int .i64 a4) w := fun _ _ _ _ _ _ => by simp [part, isAgg3]
  have p5 : ∀ (a0 : Int) (a1 : Int) (a2 : Int) (a3 : Int) (a4 : Int) (a5 : Int), (part 3 #[.int .i64 a0, .int .i64 a1, .int .i64 a2, .int .i64 a3, .int .i64 a4, .int .i64 a5] 5).run Tryz.prog w = .ok (.int .i64 a5) w := fun _ _ _ _ _ _ => by simp [part, isAgg3]
  have e3 := fun a b w => equal_i64 underlying3 (n + 0) a b w
  have e133 := fun a b w => equal_i64 underlying133 (n + 0) a b w
  rw [run_equalIn_struct w (n + 1) 135 _ _ hS hp]
  simp only [Program.fieldsOf, underlying135]
  simp only [Op.eqFields, Sem.run_bind, Sem.run_ite, p0, p1, p2, p3, p4, p5, e3, e133, Result.andThen_ok]
  by_cases h0 : a0 = b0 <;> by_cases h1 : a1 = b1 <;> by_cases h2 : a2 = b2 <;> by_cases h3 : a3 = b3 <;> by_cases h4 : a4 = b4 <;> by_cases h5 : a5 = b5 <;> simp [h0, h1, h2, h3, h4, h5]
theorem eqIn318 (n : Nat) (a0 : Int) (a1 : Int) (b0 : Int) (b1 : Int) (w : World) : (Op.equalIn (n + 2) 318 (.agg #[.int .i64 a0, .int .i64 a1]) (.agg #[.int .i64 b0, .int .i64 b1])).run Tryz.prog w = .ok (decide (a0 = b0) && decide (a1 = b1)) w := by
  have hS : Tryz.prog.underlying 318 = some (.struct (Tryz.prog.fieldsOf 318)) := by kernel_rfl
  have hp : Tryz.prog.stoodInHeld 318 = false := by kernel_rfl
  have p0 : ∀ (a0 : Int) (a1 : Int), (part 3 #[.int .i64 a0, .int .i64 a1] 0).run Tryz.prog w = .ok (.int .i64 a0) w := fun _ _ => by simp [part, isAgg3]
  have p1 : ∀ (a0 : Int) (a1 : Int), (part 3 #[.int .i64 a0, .int .i64 a1] 1).run Tryz.prog w = .ok (.int .i64 a1) w := fun _ _ => by simp [part, isAgg3]
  have e3 := fun a b w => equal_i64 underlying3 (n + 0) a b w
  rw [run_equalIn_struct w (n + 1) 318 _ _ hS hp]
  simp only [Program.fieldsOf, underlying318]
  simp only [Op.eqFields, Sem.run_bind, Sem.run_ite, p0, p1, e3, Result.andThen_ok]
  by_cases h0 : a0 = b0 <;> by_cases h1 : a1 = b1 <;> simp [h0, h1]
theorem eqIn320 (n : Nat) (a0 : Int) (a1 : Int) (a2 : Int) (b0 : Int) (b1 : Int) (b2 : Int) (w : World) : (Op.equalIn (n + 3) 320 (.agg #[.int .i64 a0, .int .i64 a1, .int .i64 a2]) (.agg #[.int .i64 b0, .int .i64 b1, .int .i64 b2])).run Tryz.prog w = .ok ((decide (a0 = b0) && decide (a1 = b1)) && decide (a2 = b2)) w := by
  have hS : Tryz.prog.underlying 320 = some (.struct (Tryz.prog.fieldsOf 320)) := by kernel_rfl
  have hp : Tryz.prog.stoodInHeld 320 = false := by kernel_rfl
  have p0 : ∀ (a0 : Int) (a1 : Int) (a2 : Int), (part 318 #[.int .i64 a0, .int .i64 a1, .int .i64 a2] 0).run Tryz.prog w = .ok (.agg #[.int .i64 a0, .int .i64 a1]) w := fun _ _ _ => by simp [part, isAgg318, sizeOf318]
  have p1 : ∀ (a0 : Int) (a1 : Int) (a2 : Int), (part 3 #[.int .i64 a0, .int .i64 a1, .int .i64 a2] 2).run Tryz.prog w = .ok (.int .i64 a2) w := fun _ _ _ => by simp [part, isAgg3]
  have e3 := fun a b w => equal_i64 underlying3 (n + 1) a b w
  have e318 := eqIn318 (n + 0)
  rw [run_equalIn_struct w (n + 2) 320 _ _ hS hp]
  simp only [Program.fieldsOf, underlying320]
  simp only [Op.eqFields, Sem.run_bind, Sem.run_ite, p0, p1, e3, e318, Result.andThen_ok]
  by_cases h0 : (decide (a0 = b0) && decide (a1 = b1)) = true <;> by_cases h1 : a2 = b2 <;> simp [h0, h1]


theorem key3_ok : KeyOK Tryz.prog 320 cd3 :=
  KeyOK.str (fs := Tryz.prog.fieldsOf 320) (by kernel_rfl) (fun ⟨a1, a2, a3⟩ ⟨b1, b2, b3⟩ w => by
    refine Eq.trans (eqIn320 9997 a1 a2 a3 b1 b2 b3 w) (congrArg (fun z => Result.ok z w) ?_)
    by_cases q1 : a1 = b1 <;> by_cases q2 : a2 = b2 <;> by_cases q3 : a3 = b3 <;> simp [q1, q2, q3]) (fun _ _ _ => by kernel_rfl) (fun a w => by simp [cd3, Instr.keyThatStays, Instr.sameBits])
theorem key2_ok : KeyOK Tryz.prog 318 cd2 :=
  KeyOK.str (fs := Tryz.prog.fieldsOf 318) (by kernel_rfl) (fun ⟨a1, a2⟩ ⟨b1, b2⟩ w => by
    refine Eq.trans (eqIn318 9998 a1 a2 b1 b2 w) (congrArg (fun z => Result.ok z w) ?_)
    by_cases q1 : a1 = b1 <;> by_cases q2 : a2 = b2 <;> simp [q1, q2]) (fun _ _ _ => by kernel_rfl) (fun a w => by simp [cd2, Instr.keyThatStays, Instr.sameBits])

theorem of_c (x : Msg) (w0 : World) :
    CallsV Tryz.prog 167 [.agg #[.int .i64 x.c, .int .i64 x.n, .int .i64 x.r, .int .i64 x.k, .int .i64 x.m, .int .i64 x.v]] w0 (fun v w' => v = cd3.k (edK x) ∧ Ext w0 w') := by
 refine f_n func167 ?_
 refine go ?_
 refine x_b fun bk2 w3 ebk2 sbk2 B4 u5 => ?_
 refine x_n fun bk7 w8 ebk7 sbk7 B9 u10 => ?_
 refine go ?_
 refine x_s fun w13 sw13 B15 u14 => ?_
 refine go ?_
 refine f_ret1 (v := .agg #[.int .i64 x.c, .int .i64 x.n, .int .i64 x.r]) results167 ⟨_, _, rfl, run_loadVarN (vs := [.int .i64 x.c, .int .i64 x.n, .int .i64 x.r]) isAgg320 sizeOf320 rfl (B15.at.sub 0 3)⟩ ?_
 exact ⟨rfl, u_d⟩

theorem read2_c (x y : Msg) (w0 : World) :
    CallsV Tryz.prog 169 [.agg #[.int .i64 x.c, .int .i64 x.n, .int .i64 x.r, .int .i64 x.k, .int .i64 x.m, .int .i64 x.v], .agg #[.int .i64 y.c, .int .i64 y.n, .int .i64 y.r, .int .i64 y.k, .int .i64 y.m, .int .i64 y.v]] w0 (fun v w' => (v = .int .i64 (cmpF x y) ∧ Gr w0 w') ∧ Ext w0 w') := by
 refine f_n func169 ?_
 refine go ?_
 refine t_boxG (cs := [.int .i64 x.c, .int .i64 x.n, .int .i64 x.r, .int .i64 x.k, .int .i64 x.m, .int .i64 x.v]) rfl rfl rfl rfl (fun bk2 w3 ebk2 sbk2 B4 u5 Gu5 => ?_)
 refine t_boxG (cs := [.int .i64 y.c, .int .i64 y.n, .int .i64 y.r, .int .i64 y.k, .int .i64 y.m, .int .i64 y.v]) rfl rfl rfl rfl (fun bk7 w8 ebk7 sbk7 B9 u10 Gu10 => ?_)
 refine go ?_
 refine c_drawnMG follows (fun _ => False) (OTl [0, 2, 4, 6, 10, 12, 14, 16, 20, 22, 24, 26, 9, 19, 29, 31, 33, 34]) (by kernel_rfl) fun w13 u14 Gu14 => ?_
 have zu14 := u14.size
 refine go ?_
 refine t_call own93 rfl rfl rfl rfl (cmpI_c x.c y.c _) (fun v16 w17 r19 => ?_)
 obtain ⟨⟨rfl, Gu18⟩, u18⟩ := r19
 have zu18 := u18.size
 refine go ?_
 refine t_call own93 rfl rfl rfl rfl (cmpI_c x.m y.m _) (fun v21 w22 r24 => ?_)
 obtain ⟨⟨rfl, Gu23⟩, u23⟩ := r24
 have zu23 := u23.size
 refine go ?_
 refine t_call own93 rfl rfl rfl rfl (cmpI_c x.n y.n _) (fun v26 w27 r29 => ?_)
 obtain ⟨⟨rfl, Gu28⟩, u28⟩ := r29
 have zu28 := u28.size
 refine go ?_
 refine t_bsliceG (ps := [(0, .int .i64 (cmpI3 x.c y.c)), (1, .int .i64 (cmpI3 x.m y.m)), (2, .int .i64 (cmpI3 x.n y.n))]) (cs := [.int .i64 (cmpI3 x.c y.c), .int .i64 (cmpI3 x.m y.m), .int .i64 (cmpI3 x.n y.n)]) (e := 3) rfl rfl ⟨rfl, rfl⟩ (fun w => by kernel_rfl) (fun bk31 w32 ebk31 sbk31 B33 u34 Gu34 => ?_)
 refine go ?_
 refine t_call own114 rfl rfl rfl rfl (or3_c (cmpI3 x.c y.c) (cmpI3 x.m y.m) (cmpI3 x.n y.n) bk31 _ B33) (fun v36 w37 r39 => ?_)
 obtain ⟨⟨rfl, Gu38⟩, u38⟩ := r39
 have zu38 := u38.size
 refine go ?_
 refine f_1 results169 ?_
 exact ⟨⟨rfl, (((((((((Gr.refl _).trans Gu5).trans Gu10).trans Gu14).trans Gu18).trans Gu23).trans Gu28).trans Gu34).trans Gu38)⟩, u_d⟩

end Go.Proofs.YtclinbbghnebaaaGreat
namespace Go.Proofs
open Go.Shelf
def YtclinbbghnebaaaGreat.sortQ_ren : Go.Shelf.Ren := ⟨fun | 14 => 209 | 20 => 255 | 21 => 256 | 22 => 257 | 23 => 258 | 24 => 259 | 25 => 260 | 26 => 261 | 27 => 262 | 46 => 287 | 47 => 204 | 48 => 205 | 49 => 288 | 50 => 289 | 15 => 92 | 57 => 298 | 28 => 158 | 29 => 159 | n => n, fun | 24 => 135 | 22 => 55 | 3 => 3 | 25 => 323 | 4 => 4 | 0 => 0 | 46 => 302 | 45 => 301 | 50 => 149 | 66 => 358 | 39 => 213 | 55 => 310 | 70 => 362 | 76 => 400 | 77 => 232 | 53 => 308 | 5 => 5 | 9 => 9 | n => n, fun | n => n⟩
theorem YtclinbbghnebaaaGreat.sortQ : Go.Proofs.SlLaysF0.n14 Tryz.prog YtclinbbghnebaaaGreat.sortQ_ren := {
  mixed := by kernel_rfl
  f14 := ⟨Tryz.f209.name, by decide, Tryz.func209.trans (congrArg some (by kernel_rfl))⟩
  f15 := Tryz.func92.trans (congrArg some (by kernel_rfl))
  f20 := ⟨Tryz.f255.name, by decide, Tryz.func255.trans (congrArg some (by kernel_rfl))⟩
  f21 := ⟨Tryz.f256.name, by decide, Tryz.func256.trans (congrArg some (by kernel_rfl))⟩
  f22 := ⟨Tryz.f257.name, by decide, Tryz.func257.trans (congrArg some (by kernel_rfl))⟩
  f23 := ⟨Tryz.f258.name, by decide, Tryz.func258.trans (congrArg some (by kernel_rfl))⟩
  f24 := ⟨Tryz.f259.name, by decide, Tryz.func259.trans (congrArg some (by kernel_rfl))⟩
  f25 := ⟨Tryz.f260.name, by decide, Tryz.func260.trans (congrArg some (by kernel_rfl))⟩
  f26 := ⟨Tryz.f261.name, by decide, Tryz.func261.trans (congrArg some (by kernel_rfl))⟩
  f27 := ⟨Tryz.f262.name, by decide, Tryz.func262.trans (congrArg some (by kernel_rfl))⟩
  f28 := Tryz.func158.trans (congrArg some (by kernel_rfl))
  f29 := Tryz.func159.trans (congrArg some (by kernel_rfl))
  f46 := ⟨Tryz.f287.name, by decide, Tryz.func287.trans (congrArg some (by kernel_rfl))⟩
  f47 := Tryz.func204.trans (congrArg some (by kernel_rfl))
  f48 := Tryz.func205.trans (congrArg some (by kernel_rfl))
  f49 := ⟨Tryz.f288.name, by decide, Tryz.func288.trans (congrArg some (by kernel_rfl))⟩
  f50 := ⟨Tryz.f289.name, by decide, Tryz.func289.trans (congrArg some (by kernel_rfl))⟩
  f57 := ⟨Tryz.f298.name, by decide, Tryz.func298.trans (congrArg some (by kernel_rfl))⟩
  t0 := Tryz.underlying0
  a0 := Tryz.isAgg0
  z0 := Tryz.sizeOf0
  v0 := Tryz.zeroValue0
  t3 := Tryz.underlying3
  a3 := Tryz.isAgg3
  z3 := Tryz.sizeOf3
  v3 := Tryz.zeroValue3
  t4 := Tryz.underlying4
  a4 := Tryz.isAgg4
  z4 := Tryz.sizeOf4
  v4 := Tryz.zeroValue4
  t5 := Tryz.underlying5
  a5 := Tryz.isAgg5
  z5 := Tryz.sizeOf5
  v5 := Tryz.zeroValue5
  t9 := Tryz.underlying9
  a9 := Tryz.isAgg9
  z9 := Tryz.sizeOf9
  v9 := Tryz.zeroValue9
  t22 := Tryz.underlying55
  a22 := Tryz.isAgg55
  z22 := Tryz.sizeOf55
  v22 := Tryz.zeroValue55
  t25 := Tryz.underlying323
  a25 := Tryz.isAgg323
  z25 := Tryz.sizeOf323
  v25 := Tryz.zeroValue323
  t39 := Tryz.underlying213
  a39 := Tryz.isAgg213
  z39 := Tryz.sizeOf213
  v39 := Tryz.zeroValue213
  t45 := Tryz.underlying301
  a45 := Tryz.isAgg301
  z45 := Tryz.sizeOf301
  v45 := Tryz.zeroValue301
  t46 := Tryz.underlying302
  a46 := Tryz.isAgg302
  z46 := Tryz.sizeOf302
  v46 := Tryz.zeroValue302
  t50 := Tryz.underlying149
  a50 := Tryz.isAgg149
  z50 := Tryz.sizeOf149
  v50 := Tryz.zeroValue149
  t53 := Tryz.underlying308
  a53 := Tryz.isAgg308
  z53 := Tryz.sizeOf308
  v53 := Tryz.zeroValue308
  t55 := Tryz.underlying310
  a55 := Tryz.isAgg310
  z55 := Tryz.sizeOf310
  v55 := Tryz.zeroValue310
  t66 := Tryz.underlying358
  a66 := Tryz.isAgg358
  z66 := Tryz.sizeOf358
  v66 := Tryz.zeroValue358
  t70 := Tryz.underlying362
  a70 := Tryz.isAgg362
  z70 := Tryz.sizeOf362
  v70 := Tryz.zeroValue362
  t76 := Tryz.underlying400
  a76 := Tryz.isAgg400
  z76 := Tryz.sizeOf400
  v76 := Tryz.zeroValue400
  t77 := Tryz.underlying232
  a77 := Tryz.isAgg232
  z77 := Tryz.sizeOf232
  v77 := Tryz.zeroValue232 }
end Go.Proofs
namespace Go.Proofs.YtclinbbghnebaaaGreat
open Go Go.RowKit Go.Proofs.Tryz
set_option maxRecDepth 10000

theorem upG_len {α β : Type} [DecidableEq α] (m : List (α × β)) (a : α) (v : β) : (upG m a v).length ≤ m.length + 1 := by
  unfold upG
  split
  · simp
  · rw [List.length_set]; omega
theorem laS_len (l : List Msg) : ∀ k, (laS l k).length ≤ k
  | 0 => Nat.le_refl _
  | k + 1 => by
    have := laS_len l k
    have := upG_len (laS l k) (keK (nth l k)) (nth l k)
    unfold laS
    split <;> omega
abbrev notWd (m : Msg) : Bool := decide (m.k ≠ 7)
theorem rd_yes {out : List Msg} {l1 l2 : List ((Int × Int) × Msg)} {p : (Int × Int) × Msg} (h : p.2.k ≠ 7) : ((out ++ [p.2]) ++ ((l1 ++ l2).map (·.2)).filter notWd).Perm (out ++ ((l1 ++ p :: l2).map (·.2)).filter notWd) := by
  rw [List.append_assoc]
  refine List.Perm.append_left out ?_
  have e : notWd p.2 = true := decide_eq_true h
  simp only [List.map_append, List.map_cons, List.filter_append, List.filter_cons, e, if_true]
  rw [List.singleton_append]
  exact List.perm_middle.symm
theorem rd_no {out : List Msg} {l1 l2 : List ((Int × Int) × Msg)} {p : (Int × Int) × Msg} (h : ¬ p.2.k ≠ 7) : out ++ ((l1 ++ l2).map (·.2)).filter notWd = out ++ ((l1 ++ p :: l2).map (·.2)).filter notWd := by
  have e : notWd p.2 = false := decide_eq_false h
  simp [e]
theorem own209 : Own Tryz.prog 209 := ⟨Tryz.f209, func209, by kernel_rfl, by kernel_rfl⟩
theorem own92 : Own Tryz.prog 92 := ⟨Tryz.f92, func92, by kernel_rfl, by kernel_rfl⟩
theorem read2_ok : CmpOk Tryz.prog 169 encMsg cmpF := fun x y W => by
  refine Calls.mono (read2_c x y W) ?_
  rintro e w' ⟨v, rfl, ⟨rfl, hg⟩, _⟩
  exact ⟨rfl, hg.grow⟩

theorem sortFa_c (xs : List Msg) (ao : Option Addr) (gb cp base : Nat) (w0 : World) (ha : Acc encMsg 6 135 base w0 ao gb cp xs) (hl : xs.length ≤ 100000) :
    CallsV Tryz.prog 168 [.slice ao xs.length cp, .func (.func 169) #[] #[]] w0 (fun v w' => (v = .tuple #[] ∧ ∃ ys, ys.Perm xs ∧ Asc cmpF ys ∧ Acc encMsg 6 135 base w' ao gb cp ys) ∧ Upd (fun i => i = gb ∧ base ≤ i) w0 w') := by
 have hgl := ha.lt
 refine f_n func168 ?_
 refine go ?_
 refine t_conv underlying3 underlying213 rfl rfl rfl (IntWalk.u64_in _ (by omega)) (t_call own92 rfl rfl rfl rfl (len_c (ρ := YtclinbbghnebaaaGreat.sortQ_ren) YtclinbbghnebaaaGreat.sortQ xs.length (by omega) _) (fun v2 w3 r5 => ?_))
 obtain ⟨kL, rfl, hkL, u4⟩ := r5
 have zu4 := u4.size
 refine go ?_
 have D7 := (ha.keep u4 (fun _ h => h))
 refine t_call own209 rfl rfl rfl rfl (pdq_c (ρ := YtclinbbghnebaaaGreat.sortQ_ren) YtclinbbghnebaaaGreat.sortQ 6 (by decide) isAgg135 sizeOf135 encMsg (fun _ => rfl) (by intro x; simp [encMsg, Value.oneCell']) cmpF cmpF_swo 169 own169 read2_ok 135 base ao gb cp xs kL hkL _ D7 (by omega)) (fun v8 w9 r11 => ?_)
 obtain ⟨ys, hperm, hasc, hacY, u10, rfl⟩ := r11
 have zu10 := u10.size
 have lt_gb := hacY.lt
 refine go ?_
 refine f_ret0 results168 ?_
 exact ⟨⟨rfl, ys, hperm, hasc, hacY⟩, u_d⟩

set_option maxHeartbeats 4000000 in
theorem read_c (l : List Msg) (al : Option Addr) (bl ol cl : Nat) (w0 : World) (hl : Sl encMsg 6 w0 al bl ol l) (hll : l.length ≤ 1000000) (hpos : 0 < w0.heap.size) :
    CallsV Tryz.prog 96 [.slice al l.length cl] w0 (fun v w' => (∃ out ao g cp e, v = .tuple #[.slice ao (List.length out) cp, .int .i64 e] ∧ Acc encMsg 6 135 w0.heap.size w' ao g cp out ∧ RdR l out e) ∧ Ext w0 w') := by
 refine f_n func96 ?_
 refine go ?_
 refine q_p (fun g15 => ?_) fun g15 => ?_
 ·
  refine go ?_
  refine f_ret2 (v1 := .slice none 0 0) (v2 := .int .i64 5) results96 rfl rfl ?_
  have hE : rdE l = 5 := if_pos (by omega)
  exact ⟨⟨[], none, 0, 0, 5, rfl, Acc.nil _ _ _ _ _ hpos (by omega), .inl ⟨by rw [hE]; decide, hE.symm, rfl⟩⟩, u_d⟩
 refine go ?_
 refine x_c func97 rfl rfl (containsM_c encMsg (fun _ => rfl) (fun x => !okMsg x) 165 [] l al bl ol cl _ own165 (fun x _ w _ => badMsg_c x w) hl hll) ?_
 rintro _ w7 ⟨rfl, u8⟩ zu8
 refine go ?_
 refine q_b (fun g19 => ?_) fun g19 => ?_
 ·
  refine go ?_
  refine f_ret2 (v1 := .slice none 0 0) (v2 := .int .i64 2) results96 rfl rfl ?_
  have hE : rdE l = 2 := by unfold rdE; rw [if_neg (by omega), if_pos g19]
  exact ⟨⟨[], none, 0, 0, 2, rfl, Acc.nil _ _ _ _ _ hpos (by omega), .inl ⟨by rw [hE]; decide, hE.symm, rfl⟩⟩, u_d⟩
 have hE0 : rdE l = 0 := by unfold rdE; rw [if_neg (by omega), if_neg (by rw [g19]; exact Bool.false_ne_true)]
 refine go ?_
 refine t_makemap rfl rfl (fun bk13 w14 ebk13 sbk13 M15 u16 => ?_)
 have zu16 := u16.size
 refine t_makemap rfl rfl (fun bk18 w19 ebk18 sbk18 M20 u21 => ?_)
 have zu21 := u21.size
 refine go ?_
 refine x_l1 (fun i => i = bk13 ∨ i = bk18) [4, 5, 24, 25] (fun (k : Nat) => [(2, .slice none 0 0), (26, .int .i64 (k : Int))]) (fun k w => (k ≤ l.length) ∧ (MapG cd3 (edS l k) w bk13) ∧ (MapG cd2 (laS l k) w bk18) ∧ (∀ j, j < k → ¬ edErr l j)) (fun k => l.length - k) 0 ⟨(Nat.zero_le _), ((MapG.ofMemo M15).keep u21 (fun h => h)), (MapG.ofMemo M20), (fun j h => absurd h (Nat.not_lt_zero j))⟩ ?_
 rintro k w26 ⟨hk, hm3, hm2, hne⟩ u27 zu27 K25 hK25
 have hm3l := hm3.lt
 have hm2l := hm2.lt
 refine go ?_
 refine q_p (fun g27 => ?_) fun g27 => ?_
 ·
  refine go ?_
  refine g_i k (hl.keep (((((Upd.refl (fun _ => False) w0).nx u8).nx u16).nx u21).next u27 (fun i hi h => by omega)) (fun _ h => h)) (fun _ => ?_)
  refine go ?_
  refine x_n fun bk34 w35 ebk34 sbk34 B36 u37 => ?_
  refine x_s fun w39 sw39 B41 u40 => ?_
  refine go ?_
  refine x_c func167 rfl rfl (of_c (nth l k) _) ?_
  rintro _ w45 ⟨rfl, u46⟩ zu46
  refine x_n fun bk49 w50 ebk49 sbk49 B51 u52 => ?_
  refine x_s fun w54 sw54 B56 u55 => ?_
  refine go ?_
  have D60 := (((((hm3.keep u37 (fun h => h)).keep u40 (show ¬ (bk13 = bk34) by omega)).keep u46 (fun h => h)).keep u52 (fun h => h)).keep u55 (show ¬ (bk13 = bk49) by omega))
  refine t_lookG (cd := cd3) (a := edK (nth l k)) (m := edS l k) (z := .agg #[.int .i64 0, .int .i64 0, .int .i64 0, .int .i64 0, .int .i64 0, .int .i64 0]) key3_ok underlying315 zeroValue135 rfl rfl rfl rfl D60 (fun hq35 => ?_) (fun o3 hq35 => ?_)
  ·
   iterate 2 refine st1 ?_
   refine t_same 36 (v := .agg #[.int .i64 0, .int .i64 0, .int .i64 0, .int .i64 0, .int .i64 0, .int .i64 0]) rfl rfl ?_
   refine go ?_
   refine x_n fun bk61 w62 ebk61 sbk61 B63 u64 => ?_
   refine x_s fun w66 sw66 B68 u67 => ?_
   refine go ?_
   have D75 := ((D60.keep u64 (fun h => h)).keep u67 (show ¬ (bk13 = bk61) by omega))
   refine t_mapG (cd := cd3) (a := edK (nth l k)) (v := (nth l k)) (m := edS l k) key3_ok underlying315 rfl rfl rfl rfl D75 (fun w72 sw72 M73 u74 => ?_)
   refine go ?_
   have D78 := ((((((((hm2.keep u37 (fun h => h)).keep u40 (show ¬ (bk18 = bk34) by omega)).keep u46 (fun h => h)).keep u52 (fun h => h)).keep u55 (show ¬ (bk18 = bk49) by omega)).keep u64 (fun h => h)).keep u67 (show ¬ (bk18 = bk61) by omega)).keep u74 (show ¬ (bk18 = bk13) by omega))
   refine t_lookG (cd := cd2) (a := keK (nth l k)) (m := laS l k) (z := .agg #[.int .i64 0, .int .i64 0, .int .i64 0, .int .i64 0, .int .i64 0, .int .i64 0]) key2_ok underlying316 zeroValue135 rfl rfl rfl rfl D78 (fun hq51 => ?_) (fun o2 hq51 => ?_)
   ·
    iterate 2 refine st1 ?_
    refine t_same 52 (v := .agg #[.int .i64 0, .int .i64 0, .int .i64 0, .int .i64 0, .int .i64 0, .int .i64 0]) rfl rfl ?_
    refine go ?_
    refine x_n fun bk79 w80 ebk79 sbk79 B81 u82 => ?_
    refine x_s fun w84 sw84 B86 u85 => ?_
    refine go ?_
    have D92 := ((D78.keep u82 (fun h => h)).keep u85 (show ¬ (bk18 = bk79) by omega))
    refine t_mapG (cd := cd2) (a := keK (nth l k)) (v := (nth l k)) (m := laS l k) key2_ok underlying316 rfl rfl rfl rfl D92 (fun w89 sw89 M90 u91 => ?_)
    refine go ?_
    have D94 := (((M73.keep u82 (fun h => h)).keep u85 (show ¬ (bk13 = bk79) by omega)).keep u91 (show ¬ (bk13 = bk18) by omega))
    exact hK25 (k + 1) ⟨(by omega), D94, (by rw [laS, if_pos (by unfold laOld; rw [hq51])]; exact M90), (fun j h => (Nat.lt_succ_iff_lt_or_eq.1 h).elim (hne j) (fun e => e ▸ (show ¬ edErr l k from (fun ⟨o, h1, _⟩ => by rw [hq35] at h1; cases h1))))⟩
   iterate 2 refine st1 ?_
   refine t_same 52 (v := .agg #[.int .i64 o2.c, .int .i64 o2.n, .int .i64 o2.r, .int .i64 o2.k, .int .i64 o2.m, .int .i64 o2.v]) rfl rfl ?_
   refine go ?_
   refine x_n fun bk95 w96 ebk95 sbk95 B97 u98 => ?_
   refine x_s fun w100 sw100 B102 u101 => ?_
   refine go ?_
   refine q_p (fun g62 => ?_) fun g62 => ?_
   ·
    refine go ?_
    have D108 := ((D78.keep u98 (fun h => h)).keep u101 (show ¬ (bk18 = bk95) by omega))
    refine t_mapG (cd := cd2) (a := keK (nth l k)) (v := (nth l k)) (m := laS l k) key2_ok underlying316 rfl rfl rfl rfl D108 (fun w105 sw105 M106 u107 => ?_)
    refine go ?_
    have D110 := (((M73.keep u98 (fun h => h)).keep u101 (show ¬ (bk13 = bk95) by omega)).keep u107 (show ¬ (bk13 = bk18) by omega))
    exact hK25 (k + 1) ⟨(by omega), D110, (by rw [laS, if_pos (by unfold laOld; rw [hq51]; exact decide_eq_true g62)]; exact M106), (fun j h => (Nat.lt_succ_iff_lt_or_eq.1 h).elim (hne j) (fun e => e ▸ (show ¬ edErr l k from (fun ⟨o, h1, _⟩ => by rw [hq35] at h1; cases h1))))⟩
   refine go ?_
   have D111 := ((D78.keep u98 (fun h => h)).keep u101 (show ¬ (bk18 = bk95) by omega))
   have D112 := ((M73.keep u98 (fun h => h)).keep u101 (show ¬ (bk13 = bk95) by omega))
   exact hK25 (k + 1) ⟨(by omega), D112, (by rw [laS, if_neg (by unfold laOld; rw [hq51]; simpa using g62)]; exact D111), (fun j h => (Nat.lt_succ_iff_lt_or_eq.1 h).elim (hne j) (fun e => e ▸ (show ¬ edErr l k from (fun ⟨o, h1, _⟩ => by rw [hq35] at h1; cases h1))))⟩
  iterate 2 refine st1 ?_
  refine t_same 36 (v := .agg #[.int .i64 o3.c, .int .i64 o3.n, .int .i64 o3.r, .int .i64 o3.k, .int .i64 o3.m, .int .i64 o3.v]) rfl rfl ?_
  refine go ?_
  refine x_n fun bk113 w114 ebk113 sbk113 B115 u116 => ?_
  refine x_s fun w118 sw118 B120 u119 => ?_
  refine go ?_
  refine t_neS (xs := [.int .i64 o3.c, .int .i64 o3.n, .int .i64 o3.r, .int .i64 o3.k, .int .i64 o3.m, .int .i64 o3.v]) (ys := [.int .i64 ((nth l k).c), .int .i64 ((nth l k).n), .int .i64 ((nth l k).r), .int .i64 ((nth l k).k), .int .i64 ((nth l k).m), .int .i64 ((nth l k).v)]) (by kernel_rfl) (eqIn135 9998 o3.c o3.n o3.r o3.k o3.m o3.v ((nth l k).c) ((nth l k).n) ((nth l k).r) ((nth l k).k) ((nth l k).m) ((nth l k).v)) rfl rfl rfl rfl ?_
  refine go ?_
  refine q_b (fun g43 => ?_) fun g43 => ?_
  ·
   have hoe : o3 ≠ (nth l k) := fun e => by subst e; simp at g43
   refine go ?_
   refine f_ret2 (v1 := .slice none 0 0) (v2 := .int .i64 6) results96 rfl rfl ?_
   exact ⟨⟨[], none, 0, 0, 6, rfl, Acc.nil _ _ _ _ _ hpos (by omega), .inr (.inl ⟨hE0, rfl, rfl, k, by omega, o3, hq35, hoe⟩)⟩, u_d⟩
  have hoe : o3 = (nth l k) := Msg.eq6 (by simpa [and_assoc] using g43)
  refine go ?_
  have D128 := ((D60.keep u116 (fun h => h)).keep u119 (show ¬ (bk13 = bk113) by omega))
  refine t_mapG (cd := cd3) (a := edK (nth l k)) (v := (nth l k)) (m := edS l k) key3_ok underlying315 rfl rfl rfl rfl D128 (fun w125 sw125 M126 u127 => ?_)
  refine go ?_
  have D131 := ((((((((hm2.keep u37 (fun h => h)).keep u40 (show ¬ (bk18 = bk34) by omega)).keep u46 (fun h => h)).keep u52 (fun h => h)).keep u55 (show ¬ (bk18 = bk49) by omega)).keep u116 (fun h => h)).keep u119 (show ¬ (bk18 = bk113) by omega)).keep u127 (show ¬ (bk18 = bk13) by omega))
  refine t_lookG (cd := cd2) (a := keK (nth l k)) (m := laS l k) (z := .agg #[.int .i64 0, .int .i64 0, .int .i64 0, .int .i64 0, .int .i64 0, .int .i64 0]) key2_ok underlying316 zeroValue135 rfl rfl rfl rfl D131 (fun hq51 => ?_) (fun o2 hq51 => ?_)
  ·
   iterate 2 refine st1 ?_
   refine t_same 52 (v := .agg #[.int .i64 0, .int .i64 0, .int .i64 0, .int .i64 0, .int .i64 0, .int .i64 0]) rfl rfl ?_
   refine go ?_
   refine x_n fun bk132 w133 ebk132 sbk132 B134 u135 => ?_
   refine x_s fun w137 sw137 B139 u138 => ?_
   refine go ?_
   have D145 := ((D131.keep u135 (fun h => h)).keep u138 (show ¬ (bk18 = bk132) by omega))
   refine t_mapG (cd := cd2) (a := keK (nth l k)) (v := (nth l k)) (m := laS l k) key2_ok underlying316 rfl rfl rfl rfl D145 (fun w142 sw142 M143 u144 => ?_)
   refine go ?_
   have D147 := (((M126.keep u135 (fun h => h)).keep u138 (show ¬ (bk13 = bk132) by omega)).keep u144 (show ¬ (bk13 = bk18) by omega))
   exact hK25 (k + 1) ⟨(by omega), D147, (by rw [laS, if_pos (by unfold laOld; rw [hq51])]; exact M143), (fun j h => (Nat.lt_succ_iff_lt_or_eq.1 h).elim (hne j) (fun e => e ▸ (show ¬ edErr l k from (fun ⟨o, h1, h2⟩ => by rw [hq35] at h1; cases h1; exact h2 hoe))))⟩
  iterate 2 refine st1 ?_
  refine t_same 52 (v := .agg #[.int .i64 o2.c, .int .i64 o2.n, .int .i64 o2.r, .int .i64 o2.k, .int .i64 o2.m, .int .i64 o2.v]) rfl rfl ?_
  refine go ?_
  refine x_n fun bk148 w149 ebk148 sbk148 B150 u151 => ?_
  refine x_s fun w153 sw153 B155 u154 => ?_
  refine go ?_
  refine q_p (fun g62 => ?_) fun g62 => ?_
  ·
   refine go ?_
   have D161 := ((D131.keep u151 (fun h => h)).keep u154 (show ¬ (bk18 = bk148) by omega))
   refine t_mapG (cd := cd2) (a := keK (nth l k)) (v := (nth l k)) (m := laS l k) key2_ok underlying316 rfl rfl rfl rfl D161 (fun w158 sw158 M159 u160 => ?_)
   refine go ?_
   have D163 := (((M126.keep u151 (fun h => h)).keep u154 (show ¬ (bk13 = bk148) by omega)).keep u160 (show ¬ (bk13 = bk18) by omega))
   exact hK25 (k + 1) ⟨(by omega), D163, (by rw [laS, if_pos (by unfold laOld; rw [hq51]; exact decide_eq_true g62)]; exact M159), (fun j h => (Nat.lt_succ_iff_lt_or_eq.1 h).elim (hne j) (fun e => e ▸ (show ¬ edErr l k from (fun ⟨o, h1, h2⟩ => by rw [hq35] at h1; cases h1; exact h2 hoe))))⟩
  refine go ?_
  have D164 := ((D131.keep u151 (fun h => h)).keep u154 (show ¬ (bk18 = bk148) by omega))
  have D165 := ((M126.keep u151 (fun h => h)).keep u154 (show ¬ (bk13 = bk148) by omega))
  exact hK25 (k + 1) ⟨(by omega), D165, (by rw [laS, if_neg (by unfold laOld; rw [hq51]; simpa using g62)]; exact D164), (fun j h => (Nat.lt_succ_iff_lt_or_eq.1 h).elim (hne j) (fun e => e ▸ (show ¬ edErr l k from (fun ⟨o, h1, h2⟩ => by rw [hq35] at h1; cases h1; exact h2 hoe))))⟩
 obtain rfl : k = l.length := by omega
 have hlal := laS_len l l.length
 refine go ?_
 refine t_rangeG (cd := cd2) underlying316 rfl rfl rfl hm2 (fun it171 w168 eit171 sit171 J170 u169 => ?_)
 have zu169 := u169.size
 refine go ?_
 refine x_l5 (fun i => i = it171 ∨ w168.heap.size ≤ i) [69] (fun (left : List ((Int × Int) × Msg)) (out : List Msg) (ao : Option Addr) (gx : Nat) (co : Nat) => [(2, .slice ao out.length co)]) (fun left out ao gx co w => (ItG cd2 (laS l l.length) left w bk18 it171) ∧ ((out ++ ((left.map (·.2)).filter notWd)).Perm (((laS l l.length).map (·.2)).filter notWd)) ∧ (Acc encMsg 6 135 w168.heap.size w ao gx co out)) (fun left out ao gx co => left.length) (laS l l.length) ([]) none 0 0 ⟨J170, (List.Perm.refl _), (Acc.nil _ _ _ _ _ (by omega) (by omega))⟩ ?_
 rintro left out ao gx co w174 ⟨hit, hpm, hout⟩ u175 zu175 K173 hK173
 have lt_gx := hout.lt
 have holn : out.length ≤ 100 := by
   have h1 := hpm.length_eq
   rw [List.length_append] at h1
   have h2 := List.length_filter_le notWd ((laS l l.length).map (·.2))
   rw [List.length_map] at h2
   omega
 refine go ?_
 refine t_nextG rfl rfl rfl hit (fun hlf => ?_) (fun l1 p l2 w178 hlf sw178 N180 u179 => ?_)
 ·
  refine go ?_
  refine x_c func168 rfl rfl (sortFa_c out ao gx co w168.heap.size _ hout (by omega)) ?_
  rintro _ w184 ⟨⟨rfl, ys, hysp, hysa, hys⟩, u185⟩ zu185
  have hysl := hysp.length_eq
  have lt_gx := hys.lt
  refine go ?_
  refine f_ret2 (v1 := .slice ao out.length co) (v2 := .int .i64 0) results96 rfl rfl ?_
  subst hlf
  have hpm2 : ys.Perm (((laS l l.length).map (·.2)).filter notWd) := hysp.trans (by simpa using hpm)
  obtain ⟨gz, hz⟩ := Acc.lower (base' := w0.heap.size) hys (by omega) hpos
  exact ⟨⟨ys, _, gz, _, 0, by rw [hysl], hz, .inr (.inr ⟨hE0, rfl, hne, hpm2, hysa⟩)⟩, u_d⟩
 refine go ?_
 refine t_entryG rfl rfl rfl N180 (st1 (t_same 73 (v := .agg #[.int .i64 p.2.c, .int .i64 p.2.n, .int .i64 p.2.r, .int .i64 p.2.k, .int .i64 p.2.m, .int .i64 p.2.v]) rfl rfl ?_))
 refine x_n fun bk192 w193 ebk192 sbk192 B194 u195 => ?_
 refine x_s fun w197 sw197 B199 u198 => ?_
 refine go ?_
 refine q_p (fun g76 => ?_) fun g76 => ?_
 ·
  refine go ?_
  refine x_l fun bk202 w203 ebk202 sbk202 B204 u205 => ?_
  have D207 := ((((hout.keep u179 (fun hb => show ¬ (gx = it171) by first | omega | assumption)).keep u195 (fun _ h => h)).keep u198 (fun hb => show ¬ (gx = bk192) by first | omega | assumption)).keep u205 (fun _ h => h))
  refine t_append (z := .agg #[.int .i64 0, .int .i64 0, .int .i64 0, .int .i64 0, .int .i64 0, .int .i64 0]) (bytes := 48) (k := 6) (base := w168.heap.size) p.2 underlying216 (by kernel_rfl) rfl (by decide) (fun _ => rfl) (by intro x; simp [encMsg, Value.oneCell']) rfl rfl rfl rfl D207 B204 (by omega) (by omega) (by decide) (fun ao208 gb209 cp210 w211 A212 u213 gegb209 lngb209 => ?_)
  have zu213 := u213.size
  have lt_gb209 := A212.lt
  refine go ?_
  have D215 := ((((N180.1.keep u195 (fun h => h) (fun h => h)).keep u198 (show ¬ (bk18 = bk192) by omega) (show ¬ (it171 = bk192) by omega)).keep u205 (fun h => h) (fun h => h)).keep u213 (show ¬ ((bk18 = gx ∧ w168.heap.size ≤ bk18)) by omega) (show ¬ ((it171 = gx ∧ w168.heap.size ≤ it171)) by omega))
  exact hK173 (l1 ++ l2) (out ++ [p.2]) ao208 gb209 cp210 ⟨D215, ((rd_yes g76).trans (by rw [← hlf]; exact hpm)), A212⟩ (hm := (by show (l1 ++ l2).length < left.length; rw [hlf, List.length_append, List.length_append, List.length_cons]; omega)) (hu := (((((u175.next u179 (fun i hi (h : i = it171) => show i = it171 ∨ w168.heap.size ≤ i by first | omega | assumption)).nx u195).next u198 (fun i hi (h : i = bk192) => show i = it171 ∨ w168.heap.size ≤ i by first | omega | assumption)).nx u205).next u213 (fun i hi (h : (i = gx ∧ w168.heap.size ≤ i)) => show i = it171 ∨ w168.heap.size ≤ i by first | omega | assumption)))
 refine go ?_
 have D216 := ((N180.1.keep u195 (fun h => h) (fun h => h)).keep u198 (show ¬ (bk18 = bk192) by omega) (show ¬ (it171 = bk192) by omega))
 have D217 := (((hout.keep u179 (fun hb => show ¬ (gx = it171) by first | omega | assumption)).keep u195 (fun _ h => h)).keep u198 (fun hb => show ¬ (gx = bk192) by first | omega | assumption))
 exact hK173 (l1 ++ l2) out ao gx co ⟨D216, (by rw [rd_no g76, ← hlf]; exact hpm), D217⟩ (hm := (by show (l1 ++ l2).length < left.length; rw [hlf, List.length_append, List.length_append, List.length_cons]; omega)) (hu := (((u175.next u179 (fun i hi (h : i = it171) => show i = it171 ∨ w168.heap.size ≤ i by first | omega | assumption)).nx u195).next u198 (fun i hi (h : i = bk192) => show i = it171 ∨ w168.heap.size ≤ i by first | omega | assumption)))


end Go.Proofs.YtclinbbghnebaaaGreat
