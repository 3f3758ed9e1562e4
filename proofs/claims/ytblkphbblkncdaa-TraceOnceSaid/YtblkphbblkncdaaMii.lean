/-
  Maps from int to int: look-ups, updates, ranges over them. Conditions: none; it holds over any program.
-/
import Derived.Test.YtblkphbblkncdaaSet
import Derived.Maps.RangeRun
namespace Go.Proofs.Ytblkphbblkncdaa
open Go Go.RowKit
def kvI (p : Int × Int) : Value × Value := (.int .i64 p.1, .int .i64 p.2)
/-- In block r lies a map with these keys and values. -/
def MapI (m : List (Int × Int)) (w : World) (r : Nat) : Prop := ∃ es c, w.heap[r]? = some (.map es c) ∧ es.toList.map (fun e => (e.key, e.val)) = m.map kvI ∧ (∀ e ∈ es.toList, e.born < c) ∧ (es.toList.map (·.born)).Nodup
theorem MapI.lt {m : List (Int × Int)} {w : World} {r : Nat} (h : MapI m w r) : r < w.heap.size := by obtain ⟨es, c, h, _⟩ := h; exact lt_of_block h
theorem MapI.keep {m : List (Int × Int)} {w w' : World} {r : Nat} {S : Nat → Prop} (h : MapI m w r) (u : Upd S w w') (hn : ¬ S r) : MapI m w' r := by
  obtain ⟨es, c, h1, h2⟩ := h
  exact ⟨es, c, (u.block r (lt_of_block h1) hn).trans h1, h2⟩
theorem MapI.ne {m : List (Int × Int)} {w : World} {r b : Nat} {c : Array Value} {t : TypeId} {f : Nat × Nat} (h : MapI m w r) (hb : w.heap[b]? = some (.cells c t f)) : r ≠ b := fun e => by
  obtain ⟨es, c, h1, _⟩ := h
  subst e; rw [h1] at hb; cases hb
theorem MapI.ofMemo {w : World} {r : Nat} (h : ∀ F, Memo F w r) : MapI [] w r := by
  obtain ⟨es, c, h1, h2⟩ := h (fun _ _ _ => False)
  have he : es.toList = [] := by
    cases he : es.toList with
    | nil => rfl
    | cons e l => obtain ⟨_, _, _, hf⟩ := h2 e (by rw [he]; simp); exact hf.elim
  exact ⟨es, c, h1, by rw [he]; rfl, by rw [he]; simp, by rw [he]; simp⟩
/-- Where a key stands, and its value. -/
def fI : List (Int × Int) → Int → Nat → Option (Nat × Int)
  | [], _, _ => none
  | p :: m, a, i => if a = p.1 then some (i, p.2) else fI m a (i + 1)
def lkI (m : List (Int × Int)) (a : Int) : Int := match fI m a 0 with
  | none => 0
  | some p => p.2
def upI (m : List (Int × Int)) (a v : Int) : List (Int × Int) := match fI m a 0 with
  | none => m ++ [(a, v)]
  | some p => m.set p.1 (a, v)
theorem findNowII {a : Int} : ∀ (m : List (Int × Int)) (es : List MapEntry) (i : Nat), es.map (fun e => (e.key, e.val)) = m.map kvI → Instr.findNow (.int .i64) (.int .i64 a) es i = some ((fI m a i).map fun p => (p.1, .int .i64 p.2))
  | [], [], i, _ => rfl
  | [], _ :: _, _, h => by simp at h
  | _ :: _, [], _, h => by simp at h
  | p :: m, e :: es, i, h => by
    simp only [List.map_cons, List.cons.injEq, kvI, Prod.mk.injEq] at h
    obtain ⟨⟨hk, hv⟩, h⟩ := h
    have ih := findNowII (a := a) m es (i + 1) h
    by_cases q : a = p.1
    · simp [Instr.findNow, hk, hv, Instr.sameNow, fI, q]
    · have hs : Instr.sameNow (.int .i64) (.int .i64 a) e.key = some false := by rw [hk]; simp [Instr.sameNow, q]
      rw [Instr.findNow, hs]
      simp only [fI, if_neg q]
      exact ih
theorem fI_at : ∀ (m : List (Int × Int)) (a : Int) (i : Nat) {j : Nat} {v : Int}, fI m a i = some (j, v) → i ≤ j ∧ m[j - i]? = some (a, v)
  | [], _, _, _, _, h => by cases h
  | p :: m, a, i, j, v, h => by
    unfold fI at h
    split at h
    · rename_i e
      simp only [Option.some.injEq, Prod.mk.injEq] at h
      obtain ⟨rfl, rfl⟩ := h
      refine ⟨Nat.le_refl _, ?_⟩
      rw [Nat.sub_self, e]; rfl
    · have := fI_at m a (i + 1) h
      refine ⟨by omega, ?_⟩
      rw [show j - i = (j - (i + 1)) + 1 by omega]
      simpa using this.2
section steps
variable {rd : Option Nat} {P : Program} {ops : Array Oper} {Q : Exit → Act → World → Prop} {N : Nat} {ds : List Deferred} {rest : List Oper} {L : Slots} {w : World}
variable {d : Nat} {ty : TypeId} {pos : String} {aft : Array Edge} {g : Option (Nat × Bool)}
theorem findKeyII {K : TypeId} {m : List (Int × Int)} {es : List MapEntry} (hK : P.underlying K = some (.int .i64)) (h : es.map (fun e => (e.key, e.val)) = m.map kvI) (a : Int) (w : World) : (Instr.findKey K (.int .i64 a) es).run P w = .ok ((fI m a 0).map fun p => (p.1, .int .i64 p.2)) w := by
  simp [Instr.findKey, run_underlying hK, findNowII m es 0 h]
/-- m[a]. -/
theorem t_lookupII {T K E : TypeId} {x i : Operand} {r : Nat} {a : Int} {m : List (Int × Int)} (hK : P.underlying K = some (.int .i64)) (hu : P.underlying T = some (.map K E)) (hz : ∀ w, (zeroValue E).run P w = .ok (.int .i64 0) w)
    (hg : grd ops L g = true) (hN : Nat.blt d N = true) (hx : ev L x = some (.map (some r))) (hi : ev L i = some (.int .i64 a)) (hm : MapI m w r)
    (h : WL rd P ops Q N ds rest ((d, .int .i64 (lkI m a)) :: L) w) : WL rd P ops Q N ds (⟨some d, .lookup T x i false, ty, pos, aft, g⟩ :: rest) L w := by
  obtain ⟨es, c, h1, h2, _⟩ := hm
  have hgo : (getObj r).run P w = .ok (.map es c) w := by simp [getObj, Sem.run, h1]
  have hj := fun w => findKeyII (P := P) hK h2 a w
  unfold lkI at h
  cases hf : fI m a 0 with
  | none =>
    rw [hf] at h hj
    refine WL.value hg rfl hN (fun a hk => ?_) h
    simp only [execOp, hk.ev hx, hk.ev hi]
    simp [Instr.lookup, run_underlying hu, hgo, checkKeyI hK, hj, hz]
  | some p =>
    rw [hf] at h hj
    refine WL.value hg rfl hN (fun a hk => ?_) h
    simp only [execOp, hk.ev hx, hk.ev hi]
    simp [Instr.lookup, run_underlying hu, hgo, checkKeyI hK, hj]
/-- m[a] = v. -/
theorem t_mapsetII {T K E : TypeId} {x i y : Operand} {r : Nat} {a v : Int} {m : List (Int × Int)} (hK : P.underlying K = some (.int .i64)) (hu : P.underlying T = some (.map K E))
    (hg : grd ops L g = true) (hx : ev L x = some (.map (some r))) (hi : ev L i = some (.int .i64 a)) (hy : ev L y = some (.int .i64 v)) (hm : MapI m w r)
    (h : ∀ w', w'.heap.size = w.heap.size → MapI (upI m a v) w' r → Upd (· = r) w w' → WL rd P ops Q N ds rest L w') : WL rd P ops Q N ds (⟨none, .mapUpdate T x i y, ty, pos, aft, g⟩ :: rest) L w := by
  obtain ⟨es, c, h1, h2, h3, h4⟩ := hm
  have hlt := lt_of_block h1
  have hgo : (getObj r).run P w = .ok (.map es c) w := by simp [getObj, Sem.run, h1]
  have hset : ∀ o, (setObj r o).run P w = .ok () { w with heap := w.heap.setIfInBounds r o } := fun o => by simp [setObj, Sem.run, h1]
  have hupd : ∀ o, Upd (· = r) w { w with heap := w.heap.setIfInBounds r o } := fun o => ⟨rfl, rfl, rfl, by simp, fun k hk hn => by simp [Array.getElem?_setIfInBounds_ne (show r ≠ k from fun e => hn e.symm)]⟩
  have hj := fun w => findKeyII (P := P) hK h2 a w
  unfold upI at h
  cases hf : fI m a 0 with
  | none =>
    rw [hf] at h hj
    refine WL.effect (w' := { w with heap := w.heap.setIfInBounds r (.map (es.push { key := .int .i64 a, val := .int .i64 v, born := c }) (c + 1)) }) hg rfl (fun ac hk => ?_) (h _ (by simp) ⟨_, _, by simp [hlt]; exact ⟨rfl, rfl⟩, ?_, ?_, ?_⟩ (hupd _))
    · simp only [execOp, hk.ev hx, hk.ev hi, hk.ev hy]
      simp [Instr.mapUpdate, run_underlying hu, hgo, checkKeyI hK, hj, hset]
    · rw [Array.toList_push, List.map_append, h2, List.map_append]; rfl
    · intro e he
      rw [Array.toList_push] at he
      rcases List.mem_append.1 he with he | he
      · have := h3 e he; omega
      · rw [List.mem_singleton.1 he]; exact Nat.lt_succ_self c
    · rw [Array.toList_push, List.map_append, List.nodup_append]
      refine ⟨h4, by simp, fun x hx y hy e => ?_⟩
      obtain ⟨q, hq, rfl⟩ := List.mem_map.1 hx
      have h5 := h3 q hq
      simp at hy
      omega
  | some p =>
    obtain ⟨j, u⟩ := p
    rw [hf] at h hj
    simp only [] at h
    have hmod : ∀ (q : Nat), (es.toList.modify j fun e => { e with key := .int .i64 a, val := .int .i64 v })[q]? = if j = q then (es.toList[q]?).map (fun e => { e with key := .int .i64 a, val := .int .i64 v }) else es.toList[q]? := fun q => by
      rw [List.getElem?_modify]
      by_cases hq : j = q
      · simp [hq]
      · simp [hq]
    have hat := fI_at m a 0 hf
    rw [Nat.sub_zero] at hat
    have hjl : j < es.toList.length := by
      have h6 := congrArg List.length h2
      rw [List.length_map, List.length_map] at h6
      have := (List.getElem?_eq_some_iff.1 hat.2).1
      omega
    have hjs : j < es.size := by simpa using hjl
    have hek : (es[j]?).map (·.key) = some (.int .i64 a) := by
      have h7 : (es.toList.map (fun e => (e.key, e.val)))[j]? = (m.map kvI)[j]? := by rw [h2]
      rw [List.getElem?_map, List.getElem?_map, hat.2] at h7
      rw [Array.getElem?_toList] at h7
      cases he : es[j]? with
      | none => rw [he] at h7; cases h7
      | some e => rw [he] at h7; simp [kvI] at h7; simp [h7.1]
    have hkey : ((es[j]?).map (·.key)).getD (.int .i64 a) = .int .i64 a := by rw [hek]; rfl
    have hsame : ∀ w, (Instr.keyThatStays (.int .i64 a) (.int .i64 a)).run P w = .ok (.int .i64 a) w := fun w => by simp [Instr.keyThatStays, Instr.sameBits]
    have hml : (es.modify j fun e => { e with key := .int .i64 a, val := .int .i64 v }).toList = es.toList.modify j fun e => { e with key := .int .i64 a, val := .int .i64 v } := by simp
    refine WL.effect (w' := { w with heap := w.heap.setIfInBounds r (.map (es.modify j fun e => { e with key := .int .i64 a, val := .int .i64 v }) c) }) hg rfl (fun ac hk => ?_) (h _ (by simp) ⟨_, _, by simp [hlt]; exact ⟨rfl, rfl⟩, ?_, ?_, ?_⟩ (hupd _))
    · simp only [execOp, hk.ev hx, hk.ev hi, hk.ev hy]
      simp only [Instr.mapUpdate]
      simp [run_underlying hu, hgo, checkKeyI hK, hj, hset, hkey, hsame]
    · rw [hml]
      refine List.ext_getElem? fun q => ?_
      rw [List.getElem?_map, hmod, List.getElem?_map]
      have h7 : (es.toList.map (fun e => (e.key, e.val)))[q]? = (m.map kvI)[q]? := by rw [h2]
      rw [List.getElem?_map, List.getElem?_map] at h7
      by_cases hq : j = q
      · subst hq
        rw [if_pos rfl, List.getElem?_set_self (by rw [← List.length_map (f := kvI), ← h2, List.length_map]; exact hjl), List.getElem?_eq_getElem hjl]; rfl
      · rw [if_neg hq, List.getElem?_set_ne hq]
        cases he : es.toList[q]? with
        | none => rw [he] at h7; simpa using h7
        | some e => rw [he] at h7; simpa using h7
    · intro e he
      rw [hml] at he
      obtain ⟨q, hq⟩ := List.getElem?_of_mem he
      rw [hmod] at hq
      cases h8 : es.toList[q]? with
      | none => rw [h8] at hq; simp at hq
      | some e0 =>
        rw [h8] at hq
        have h9 := h3 e0 (List.mem_of_getElem? h8)
        split at hq
        · simp only [Option.map_some, Option.some.injEq] at hq; subst hq; exact h9
        · simp only [Option.some.injEq] at hq; subst hq; exact h9
    · have hb : (es.modify j fun e => { e with key := .int .i64 a, val := .int .i64 v }).toList.map (·.born) = es.toList.map (·.born) := by
        rw [hml]
        refine List.ext_getElem? fun q => ?_
        rw [List.getElem?_map, hmod, List.getElem?_map]
        split
        · cases es.toList[q]? <;> rfl
        · rfl
      rw [hb]; exact h4
/-- A range over the map in block r is under way, its iterator lies in block it; these entries are to come. -/
def ItI (m left : List (Int × Int)) (w : World) (r it : Nat) : Prop := ∃ es c since seen c0, w.heap[r]? = some (.map es c) ∧ es.toList.map (fun e => (e.key, e.val)) = m.map kvI ∧ (es.toList.map (·.born)).Nodup ∧ w.heap[it]? = some (.mapIter (some r) since seen c0) ∧ (∀ e ∈ es.toList, e.born < since) ∧ since ≤ c0 ∧ since ≤ c ∧ (leftOf es seen).toList.map (fun e => (e.key, e.val)) = left.map kvI
/-- The same, and this entry has just come. -/
def ItN (m left : List (Int × Int)) (p : Int × Int) (w : World) (r it : Nat) : Prop := ItI m left w r it ∧ ∃ (es : Array MapEntry) (c since : Nat) (seen : Array Nat) (e : MapEntry), w.heap[r]? = some (.map es c) ∧ w.heap[it]? = some (.mapIter (some r) since (seen.push e.born) c) ∧ e ∈ es.toList ∧ (es.toList.map (·.born)).Nodup ∧ (e.key, e.val) = kvI p
theorem ItI.keep {m left : List (Int × Int)} {w w' : World} {r it : Nat} {S : Nat → Prop} (h : ItI m left w r it) (u : Upd S w w') (h1 : ¬ S r) (h2 : ¬ S it) : ItI m left w' r it := by
  obtain ⟨es, c, since, seen, c0, q1, q2, q3, q4, q5⟩ := h
  exact ⟨es, c, since, seen, c0, (u.block r (lt_of_block q1) h1).trans q1, q2, q3, (u.block it (lt_of_block q4) h2).trans q4, q5⟩
theorem ItI.same {m left : List (Int × Int)} {w w' : World} {r it : Nat} (h : ItI m left w r it) (h1 : w'.heap[r]? = w.heap[r]?) (h2 : w'.heap[it]? = w.heap[it]?) : ItI m left w' r it := by
  obtain ⟨es, c, since, seen, c0, q1, q2, q3, q4, q5⟩ := h
  exact ⟨es, c, since, seen, c0, h1.trans q1, q2, q3, h2.trans q4, q5⟩
theorem ItI.iter {m left : List (Int × Int)} {w : World} {r it : Nat} (h : ItI m left w r it) : ∃ a b c d, w.heap[it]? = some (.mapIter a b c d) := by obtain ⟨es, c, since, seen, c0, q1, q2, q3, q4, q5⟩ := h; exact ⟨_, _, _, _, q4⟩
theorem ItI.map {m left : List (Int × Int)} {w : World} {r it : Nat} (h : ItI m left w r it) : ∃ a b, w.heap[r]? = some (.map a b) := by obtain ⟨es, c, since, seen, c0, q1, q2, q3, q4, q5⟩ := h; exact ⟨_, _, q1⟩
theorem t_rangeI {T K E : TypeId} {x : Operand} {r : Nat} {m : List (Int × Int)} (hu : P.underlying T = some (.map K E)) (hg : grd ops L g = true) (hN : Nat.blt d N = true) (hx : ev L x = some (.map (some r))) (hm : MapI m w r)
    (h : ∀ it w', it = w.heap.size → w'.heap.size = w.heap.size + 1 → ItI m m w' r it → Ext w w' → WL rd P ops Q N ds rest ((d, .pointer (some ⟨it, 0, none⟩)) :: L) w') : WL rd P ops Q N ds (⟨some d, .range T x, ty, pos, aft, g⟩ :: rest) L w := by
  obtain ⟨es, c, h1, h2, h3, h4⟩ := hm
  have hlt := lt_of_block h1
  refine WL.value hg rfl hN (fun a hk => ?_) (h w.heap.size _ rfl (by simp) ⟨es, c, c, #[], c, (Below.heap_alloc _ _ _ hlt).trans h1, h2, h4, heap_alloc_new _ _, h3, Nat.le_refl _, Nat.le_refl _, by rw [show leftOf es #[] = es by simp [leftOf]]; exact h2⟩ (Upd.alloc _ _))
  simp only [execOp, hk.ev hx]
  simp [run_range_map w T K E r es c hu h1]
theorem filter_cut {l : List MapEntry} {e : MapEntry} (hn : (l.map (·.born)).Nodup) {p : MapEntry → Bool} (he : e ∈ l.filter p) : ∃ l1 l2, l.filter p = l1 ++ e :: l2 ∧ l.filter (fun x => p x && !(x.born == e.born)) = l1 ++ l2 := by
  obtain ⟨l1, l2, h⟩ := List.append_of_mem he
  refine ⟨l1, l2, h, ?_⟩
  have hn2 : ((l.filter p).map (·.born)).Nodup := hn.sublist (List.Sublist.map _ List.filter_sublist)
  have hff : l.filter (fun x => p x && !(x.born == e.born)) = (l.filter p).filter (fun x => !(x.born == e.born)) := by
    rw [List.filter_filter]
    congr 1
    funext x
    exact Bool.and_comm _ _
  rw [hff, h]
  rw [h, List.map_append, List.map_cons, List.nodup_append] at hn2
  obtain ⟨n1, n2, n3⟩ := hn2
  rw [List.nodup_cons] at n2
  rw [List.filter_append, List.filter_cons]
  have f1 : l1.filter (fun x => !(x.born == e.born)) = l1 := by
    rw [List.filter_eq_self]
    intro x hx
    have := n3 x.born (List.mem_map.2 ⟨x, hx, rfl⟩) e.born (by simp)
    simpa using this
  have f2 : l2.filter (fun x => !(x.born == e.born)) = l2 := by
    rw [List.filter_eq_self]
    intro x hx
    have : x.born ≠ e.born := fun q => n2.1 (by rw [← q]; exact List.mem_map.2 ⟨x, hx, rfl⟩)
    simpa using this
  simp [f1, f2]
theorem t_nextI {x : Operand} {r it : Nat} {m left : List (Int × Int)} (hg : grd ops L g = true) (hN : Nat.blt d N = true) (hx : ev L x = some (.pointer (some ⟨it, 0, none⟩))) (hm : ItI m left w r it)
    (h0 : left = [] → WL rd P ops Q N ds rest ((d, .tuple #[.bool false]) :: L) w)
    (h1 : ∀ l1 p l2 w', left = l1 ++ p :: l2 → w'.heap.size = w.heap.size → ItN m (l1 ++ l2) p w' r it → Upd (· = it) w w' → WL rd P ops Q N ds rest ((d, .tuple #[.bool true, .int .i64 p.1, .int .i64 p.2]) :: L) w') : WL rd P ops Q N ds (⟨some d, .next x false, ty, pos, aft, g⟩ :: rest) L w := by
  obtain ⟨es, c, since, seen, c0, q1, q2, q3, q4, q5, q6, q7, q8⟩ := hm
  have hex : ∀ a, Kn N ds L a → execOp a.eval ⟨some d, .next x false, ty, pos, aft, g⟩ = (do let v ← Instr.next (.pointer (some ⟨it, 0, none⟩)) false ty; pure (.value v)) := fun a hk => by
    simp only [execOp, hk.ev hx]
  rcases run_next_at (P := P) w ty it r since c0 seen es c q4 q1 q5 q6 with ⟨s0, hrun⟩ | ⟨e, he, w1, hal, hrun⟩
  · have hl : left = [] := by
      have : (leftOf es seen).toList = [] := by
        have := Array.eq_empty_of_size_eq_zero s0
        rw [this]
      rw [this] at q8
      simpa using q8.symm
    refine WL.value hg rfl hN (fun a hk => ?_) (h0 hl)
    rw [hex a hk]; simp [hrun]
  · have hlf : (leftOf es seen).toList = es.toList.filter fun e => !seen.contains e.born := by simp [leftOf]
    rw [hlf] at he q8
    obtain ⟨l1, l2, c1, c2⟩ := filter_cut q3 he
    have hem : e ∈ es.toList := (List.mem_filter.1 he).1
    rw [c1, List.map_append, List.map_cons] at q8
    obtain ⟨m1, m', e1, e2, e3⟩ := List.map_eq_append_iff.1 q8.symm
    obtain ⟨p, m2, e4, e5, e6⟩ := List.map_eq_cons_iff.1 e3
    have hr1 : w1.heap[it]? = some (.mapIter (some r) since seen c0) := by rcases hal with rfl | rfl <;> exact q4
    have hb1 : w1.heap[r]? = some (.map es c) := by rcases hal with rfl | rfl <;> exact q1
    have hne : r ≠ it := fun q => by rw [q, q4] at q1; cases q1
    have hset : (ChangeMaps.setBlock w1 it (.mapIter (some r) since (seen.push e.born) c)).heap[it]? = some (.mapIter (some r) since (seen.push e.born) c) ∧ ∀ k, k ≠ it → (ChangeMaps.setBlock w1 it (.mapIter (some r) since (seen.push e.born) c)).heap[k]? = w1.heap[k]? := MapKept.heap_set hr1
    have hb2 := (hset.2 r hne).trans hb1
    have hup : Upd (· = it) w (ChangeMaps.setBlock w1 it (.mapIter (some r) since (seen.push e.born) c)) := by
      rcases hal with rfl | rfl <;> exact ⟨rfl, rfl, rfl, by simp [ChangeMaps.setBlock], fun k _ hn => hset.2 k hn⟩
    have hsz : (ChangeMaps.setBlock w1 it (.mapIter (some r) since (seen.push e.born) c)).heap.size = w.heap.size := by rcases hal with rfl | rfl <;> simp [ChangeMaps.setBlock]
    have hl2 : (leftOf es (seen.push e.born)).toList = l1 ++ l2 := by
      rw [← c2]
      simp only [leftOf, Array.toList_filter]
      congr 1
      funext x
      rw [contains_push]
      cases seen.contains x.born <;> simp
    have hN1 : ItN m (m1 ++ m2) p (ChangeMaps.setBlock w1 it (.mapIter (some r) since (seen.push e.born) c)) r it := by
      refine ⟨⟨es, c, since, seen.push e.born, c, hb2, q2, q3, hset.1, q5, q7, q7, ?_⟩, es, c, since, seen, e, hb2, hset.1, hem, q3, e5.symm⟩
      rw [hl2, List.map_append, List.map_append, e2, e6]
    have hfin := h1 m1 p m2 _ (by rw [e1, e4]) hsz hN1 hup
    refine WL.value hg rfl hN (fun a hk => ?_) hfin
    rw [hex a hk]
    have k1 : e.key = .int .i64 p.1 := (congrArg Prod.fst e5).symm
    have k2 : e.val = .int .i64 p.2 := (congrArg Prod.snd e5).symm
    simp [hrun, k1, k2]
theorem t_entryII {x : Operand} {r it : Nat} {m left : List (Int × Int)} {p : Int × Int} (hg : grd ops L g = true) (hN : Nat.blt d N = true) (hx : ev L x = some (.pointer (some ⟨it, 0, none⟩))) (hm : ItN m left p w r it)
    (h : WL rd P ops Q N ds rest ((d, .tuple #[.int .i64 p.1, .int .i64 p.2]) :: L) w) : WL rd P ops Q N ds (⟨some d, .entry x, ty, pos, aft, g⟩ :: rest) L w := by
  obtain ⟨_, es, c, since, seen, e, q1, q2, q3, q4, q5⟩ := hm
  have hr := run_entry_at (P := P) w it r since seen es c e q2 q1 q3 q4
  have k1 : e.key = .int .i64 p.1 := congrArg Prod.fst q5
  have k2 : e.val = .int .i64 p.2 := congrArg Prod.snd q5
  rw [k1, k2] at hr
  exact WL.value hg rfl hN (fun a hk => by simp only [execOp, hk.ev hx]; simp [hr]) h
end steps
end Go.Proofs.Ytblkphbblkncdaa
