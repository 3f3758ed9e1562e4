/-
  Ranges over a function: the call of yield, the loop at its caller, the function's end with the marks of such loops. Conditions: none; they hold over any program.
-/
import Derived.Test.YtagmodjadmecdaaGreatAcc
import Derived.RangeFuncNested
import Derived.RangeFuncBound
import Derived.RangeFuncLeaves
namespace Go.Proofs.YtagmodjadmecdaaGreat
open Go Go.RowKit

theorem Ext.grownBy {w w' : World} (h : Ext w w') : w.grownBy w' none := ⟨h.os, h.tape, h.output, h.size, fun k hk _ => h.block k hk id⟩
theorem Upd.putObj (w : World) (l : Nat) (o : Obj) : Upd (· = l) w (w.putObj l o) := ⟨rfl, rfl, rfl, by simp, fun k _ hn => World.putObj_heap_other hn⟩

/-- What is said abides the turn of what is no cells, from B on. -/
theorem ownFrom_blk {β : Type} {B b : Nat} {t : TypeId} {f : β → List Value} : OwnFrom B (fun s w => Blk w b t (f s)) := fun s W W' row hs hg hr =>
  (hg.block b (Blk.lt hs) (fun e => by
    obtain ⟨_, o, ho, hc⟩ := hr b e.symm
    rw [show W.heap[b]? = _ from hs] at ho
    cases ho
    cases hc)).trans hs

theorem ownFrom_acc {β α : Type} {B : Nat} {enc : α → List Value} {k : Nat} {e : TypeId} {base : Nat} {ao : β → Option Addr} {g cap : β → Nat} {xs : β → List α} : OwnFrom B (fun s w => Acc enc k e base w (ao s) (g s) (cap s) (xs s)) := fun s W W' row hs hg hr => by
  refine ⟨Nat.lt_of_lt_of_le hs.lt hg.size, ?_⟩
  rcases hs.at_ with h1 | ⟨h1, h2, cur, h3, h4⟩
  · exact .inl h1
  · refine .inr ⟨h1, h2, cur, (hg.block _ hs.lt (fun e' => ?_)).trans h3, h4⟩
    obtain ⟨_, o, ho, hc⟩ := hr _ e'.symm
    rw [h3] at ho
    cases ho
    cases hc

theorem ownFrom_ex {β γ : Type} {B : Nat} {I : γ → β → World → Prop} (h : ∀ c, OwnFrom B (I c)) : OwnFrom B (fun s w => ∃ c, I c s w) := fun s W W' row hs hg hr => by
  obtain ⟨c, hc⟩ := hs
  exact ⟨c, h c s W W' row hc hg hr⟩

theorem ownFrom_upd {β : Type} {B : Nat} {S : Nat → Prop} {w0 : World} (hB : w0.heap.size ≤ B) : OwnFrom B (fun (_ : β) w => Upd S w0 w) := fun _ W W' row hs hg hr =>
  ⟨hg.os.trans hs.os, hg.tape.trans hs.tape, hg.output.trans hs.output, Nat.le_trans hs.size hg.size, fun k hk hn =>
    (hg.block k (Nat.lt_of_lt_of_le hk hs.size) (fun e => by have := (hr k e.symm).1; omega)).trans (hs.block k hk hn)⟩

/-- What may turn is cells. -/
def CellsIn (S : Nat → Prop) (w : World) : Prop := ∀ k, k < w.heap.size → S k → ∃ cur t f, w.heap[k]? = some (.cells cur t f)

theorem CellsIn.none (w : World) : CellsIn (fun _ => False) w := fun _ _ h => h.elim
theorem Blk.cellsIn {w : World} {b : Nat} {t : TypeId} {cs : List Value} (h : Blk w b t cs) : CellsIn (· = b) w := fun k _ e => by subst e; exact ⟨_, _, _, h⟩
theorem Acc.cellsIn {α : Type} {enc : α → List Value} {k : Nat} {e : TypeId} {base : Nat} {w : World} {ao : Option Addr} {g cap : Nat} {xs : List α} (h : Acc enc k e base w ao g cap xs) : CellsIn (fun i => i = g ∧ base ≤ i) w := fun i _ hi => by
  rcases h.at_ with ⟨_, _, _, h1⟩ | ⟨_, _, cur, h1, _⟩
  · omega
  · rw [hi.1]; exact ⟨_, _, _, h1⟩
theorem CellsIn.or {S T : Nat → Prop} {w : World} (h : CellsIn S w) (k : CellsIn T w) : CellsIn (fun i => S i ∨ T i) w := fun i hi h' => h'.elim (h i hi) (k i hi)

theorem KeepsFrom.of_upd {S : Nat → Prop} {B : Nat} {w w' : World} (u : Upd S w w') (h : CellsIn S w) : KeepsFrom B w w' :=
  ⟨u.size, fun k o _ hk ho => (u.block k (Array.getElem?_eq_some_iff.1 hk).1 (fun hs => by
    obtain ⟨c, t, f, hc⟩ := h k (Array.getElem?_eq_some_iff.1 hk).1 hs
    rw [hk] at hc
    cases hc
    cases ho)).trans hk⟩

/-! ### The marks of ended loops among the deferred calls -/
def mark (D : Nat) : Deferred := { target := .collected D, args := #[] }

/-- The deferred calls are the marks of loops in whose rounds nothing was deferred. -/
def Marks (base : Nat) : List Deferred → World → Prop
  | [], _ => True
  | d :: ds, w => (∃ D, d = mark D ∧ base ≤ D ∧ w.heap[D]? = some (.deferred (some [])) ∧ (∀ d' ∈ ds, ∀ D', d' = mark D' → D' < D)) ∧ Marks base ds w

theorem Marks.keep {base : Nat} {S : Nat → Prop} : ∀ {ds : List Deferred} {w w' : World}, Marks base ds w → Upd S w w' → CellsIn S w → Marks base ds w'
  | [], _, _, _, _, _ => trivial
  | d :: ds, w, w', h, u, hc => by
    obtain ⟨⟨D, h1, h2, h3, h4⟩, h5⟩ := h
    refine ⟨⟨D, h1, h2, ?_, h4⟩, h5.keep u hc⟩
    have hlt := lt_of_block h3
    refine (u.block D hlt (fun hs => ?_)).trans h3
    obtain ⟨c, t, f, hq⟩ := hc D hlt hs
    rw [h3] at hq
    cases hq

theorem Marks.lt {base : Nat} : ∀ {ds : List Deferred} {w : World}, Marks base ds w → ∀ d ∈ ds, ∀ D, d = mark D → D < w.heap.size
  | [], _, _, d, hd, _, _ => by cases hd
  | d :: ds, w, h, d', hd, D', e => by
    obtain ⟨⟨D, h1, h2, h3, h4⟩, h5⟩ := h
    rcases List.mem_cons.1 hd with rfl | hd
    · rw [h1] at e
      injection e with e
      injection e with e
      subst e
      exact lt_of_block h3
    · exact h5.lt d' hd D' e

theorem Marks.keepLow {base : Nat} {S : Nat → Prop} {B : Nat} : ∀ {ds : List Deferred} {w w' : World}, Marks base ds w → Upd S w w' → (∀ d ∈ ds, ∀ D, d = mark D → D < B) → (∀ k, S k → B ≤ k) → Marks base ds w'
  | [], _, _, _, _, _, _ => trivial
  | d :: ds, w, w', h, u, hB, hS => by
    obtain ⟨⟨D, h1, h2, h3, h4⟩, h5⟩ := h
    refine ⟨⟨D, h1, h2, ?_, h4⟩, h5.keepLow u (fun d' hd' => hB d' (by simp [hd'])) hS⟩
    exact (u.block D (lt_of_block h3) (fun hs => by have := hB d (by simp) D h1; have := hS D hs; omega)).trans h3

theorem Marks.push {base : Nat} {ds : List Deferred} {w : World} {D : Nat} (h : Marks base ds w) (hb : base ≤ D) (hD : w.heap[D]? = some (.deferred (some []))) (hn : ∀ d ∈ ds, ∀ D', d = mark D' → D' < D) : Marks base (mark D :: ds) w :=
  ⟨⟨D, rfl, hb, hD, hn⟩, h⟩

/-- The function's end with such marks: they are taken up, nothing is called. -/
theorem leavesInM_marks {P : Program} {fn : Func} {tmps : Array Value} {R : Value → World → Prop} {base : Nat} {v : Value} (hr : ∀ w, (results fn tmps).run P w = .ok v w) : ∀ (ds : List Deferred) (w0 w : World), Marks base ds w → w0.heap.size ≤ base → (∀ w', Upd (fun i => base ≤ i) w w' → R v w') →
    LeavesInM (rnd none) 3 P fn tmps (fun e w' => ∃ v, e = .returned v ∧ R v w') ds .returning w
  | [], w0, w, _, _, hR => ⟨v, hr w, v, rfl, hR w (Upd.refl _ _)⟩
  | d :: ds, w0, w, h, hb, hR => by
    obtain ⟨⟨D, rfl, h2, h3, h4⟩, h5⟩ := h
    refine ⟨by simp, .inl ⟨D, _, rfl, run_takeDeferred h3, ?_⟩⟩
    have u := Upd.putObj w D (.deferred none)
    have hm : Marks base ds (w.putObj D (.deferred none)) := by
      clear hR
      revert h5
      have hlow : ∀ d ∈ ds, ∀ D', d = mark D' → D' < D := h4
      intro h5
      exact h5.keepLow u hlow (fun k hk => by omega)
    exact leavesInM_marks hr ds w0 _ hm hb (fun w' u' => hR w' ((u.mono (fun k hk => by omega)).trans u'))

section steps
variable {rd : Option Nat} {P : Program} {ops : Array Oper} {Q : Exit → Act → World → Prop} {N : Nat} {ds : List Deferred} {rest : List Oper} {L : Slots} {w : World}
variable {d : Nat} {ty : TypeId} {pos : String} {aft : Array Edge} {g : Option (Nat × Bool)} {c : Code}

theorem roundIn_rnd {n m : Nat} {l : Nat} {f : FuncId} {tmps : Array Value} {assign body : Code} {R : Ending → World → Prop} (h : RoundIn Fence.wide m P l f tmps assign body w R) : RoundIn (rnd rd) n P l f tmps assign body w R := by
  obtain ⟨_, h2⟩ := h
  refine ⟨rnd_fn _ _, fun c cs _ => ?_⟩
  have := h2 c cs (room_wide _)
  cases rd with
  | none => exact this
  | some l => exact this

/-- A call of yield: one round. -/
theorem t_yield {f : Operand} {l m : Nat} {xs : Array Operand} {ats : Array TypeId} {vs : List Value} {R : Ending → World → Prop} (hg : grd ops L g = true) (hN : Nat.blt d N = true)
    (hf : ev L f = some (.func (.yield l) #[] #[])) (hv : evs L xs.toList = some vs) (hy : YieldAt Fence.wide m P l vs.toArray w R) (hR : ∀ e w', R e w' → ∃ v, e = .returned v)
    (h : ∀ v w', R (.returned v) w' → WL rd P ops Q N ds rest ((d, v) :: L) w') : WL rd P ops Q N ds (⟨some d, .call ⟨.value f, xs, ats⟩, ty, pos, aft, g⟩ :: rest) L w := by
  intro a ha
  obtain ⟨fn, tmps, assign, body, hy1, hy2⟩ := hy
  have e1 : xs.map a.eval = vs.toArray := by rw [← ha.evs hv, ← Array.toList_map]
  have hr : (execOp a.eval ⟨some d, .call ⟨.value f, xs, ats⟩, ty, pos, aft, g⟩).run P w = .ok (.round l fn tmps assign body) w := by
    simp [execOp, resolve, ha.ev hf, Deferred.ofValue, invoke, e1, hy1]
  unfold wpListIn
  rw [if_pos (ha.wanted (o := ⟨some d, .call ⟨.value f, xs, ats⟩, ty, pos, aft, g⟩) hg)]
  unfold Oper.wpIn
  refine ⟨fun f _ => rnd_fn _ f, ?_⟩
  rw [semAt_of_ok (by simp) hr, Oper.uponIn_round]
  refine ⟨fun h => by simp [rnd_depth] at h, RoundIn.mono (roundIn_rnd hy2) ?_⟩
  intro e w' r
  obtain ⟨v, rfl⟩ := hR e w' r
  exact h v w' r _ (ha.put v hN)

theorem wpIn_rnd {n m : Nat} {a : Act} (h : c.wpIn (rnd rd) m P Q a w) : c.wpIn (rnd rd) n P Q a w :=
  fun b k cs hro hb _ => h b k cs hro hb (fun d hd => by rw [rnd_depth] at hd; cases hd)

def bind1 (p : Nat) (v : Value) (L : Slots) : Slots := (p, v) :: L

/-- The statement 'for x := range g', g an iterator with a contract; the body never leaves the loop. -/
theorem c_range {α : Type} {go : Operand} {p : Nat} {assign body : Code} {gf : Nat} {lb : List Value} {enc : α → Value} {T : Nat → Prop} {S Sp : List α → Prop} {M m : Nat} (ho : Own P gf)
    (hp : Nat.blt p N = true) (hg : ev L go = some (.func (.func gf) #[] lb.toArray)) (hseq : SeqStopsK Fence.wide m P gf lb.toArray (fun x => #[enc x]) (Upd T) S Sp M w) (hT : ∀ k, w.heap.size ≤ k → T k)
    (I : List α → World → Prop) (hI : OwnFrom w.heap.size I) (h0 : I [] w) (La : α → Slots)
    (hassign : ∀ (l : Nat) (pre : List α) (x : α) (W : World) (K : Act → World → Prop), I pre W → (∀ L', Sub (La x) L' → QK K N [] L' W) → WC (some l) P (Exit.then K (fun _ _ _ => False)) N [] assign ((p, enc x) :: L) W)
    (hbody : ∀ (l : Nat) (pre : List α) (x : α) (W : World), I pre W → pre.length < M → WC (some l) P (ownPostG w.heap.size (Upd T) I (fun _ _ _ => False) (pre ++ [x]) W) N [] body (La x) W)
    (hdone : ∀ (D : Nat) (xs : List α) (W : World), w.heap.size ≤ D → S xs → I xs W → W.heap[D]? = some (.deferred (some [])) → QK (Q .normal) N (mark D :: ds) L W) :
    WC none P Q N ds (.rangeFunc go #[p] assign body) L w := by
  intro a ha
  have hseq' : SeqStopsK Fence.wide (3 - 1) P gf lb.toArray (fun x => #[enc x]) (Upd T) S Sp M w := by
    intro l J Jx W h1 h2 h3 h4 h5
    refine callsIn_wide.2 (callsIn_wide.1 (hseq l J Jx W h1 h2 h3 (fun pre x W1 h6 h7 => ?_) h5))
    obtain ⟨fn, tmps, assign, body, hy1, hy2⟩ := h4 pre x W1 h6 h7
    exact ⟨fn, tmps, assign, body, hy1, roundIn_rnd (rd := none) hy2⟩
  refine wpIn_rangeFunc_ownH (F := Fence.wide) (n := 3) (w0 := w) rfl (by decide) (ha.ev hg) trivial (fun args w => ho.run args w) hseq' (fun h k => h.trans k)
    (fun W l o o' hl _ _ _ => (Upd.putObj W l o').mono (fun k hk => hT k (by omega))) (Below.refl _ _) (fun _ => rfl) I (fun _ _ _ => False) hI (fun _ _ _ _ _ h _ _ => h) h0
    (fun x a' _ => Kn N [] (La x) a') (fun _ _ _ _ _ _ h _ _ => h) ?_ ?_ ?_ ?_
  · intro l pre x W K hi hK
    have hk : Kn N [] ((p, enc x) :: L) { tmps := (#[p].zip #[enc x]).foldl (fun t (p, v) => t.setIfInBounds p v) a.tmps, defers := [] } := by
      have h1 : Kn N [] L { a with defers := [] } := ⟨ha.size, rfl, ha.get⟩
      have h2 := h1.put (enc x) hp
      refine ⟨by simpa [Act.put] using h2.size, rfl, fun k v hv => ?_⟩
      have := h2.get k v hv
      simpa [Act.put] using this
    refine wpIn_rnd (rd := some l) (m := 3) (hassign l pre x W K hi (fun L' hs a' ha' => hK a' W (KeepsFrom.refl _ _) (Upd.refl _ _) hi (ha'.sub hs)) _ hk)
  · intro l pre x a' W _ _ hi hA hlen
    exact wpIn_rnd (rd := some l) (m := 3) (hbody l pre x W hi hlen a' hA)
  · intro D xs W hD hS hI' hd
    refine hdone D xs W hD hS hI' hd _ ⟨ha.size, ?_, ha.get⟩
    simp [ha.defers, mark]
  · intro D c pre W _ _ h _
    exact h.elim

/-- A loop in which deferred calls (marks) may gather. -/
theorem c_loopm {γ : Type} (Lf : γ → Slots) (Df : γ → List Deferred) (Wf : γ → World → Prop) (μ : γ → Nat) (g0 : γ) (hd0 : Df g0 = ds) (h0 : Sub (Lf g0) L) (hw : Wf g0 w)
    (step : ∀ g w', Wf g w' → ∀ K : Act → World → Prop, (∀ g' L'' w'', μ g' < μ g → Sub (Lf g') L'' → Wf g' w'' → QK K N (Df g') L'' w'') → WC rd P (Exit.then K Q) N (Df g) c (Lf g) w') :
    WC rd P Q N ds (.loop c) L w := by
  intro a ha b k cs hro hb hr
  have key : ∀ n g a w, μ g = n → Kn N (Df g) (Lf g) a → Wf g w →
      ∃ e a' w', Q e a' w' ∧ ArrivesIn (Machine.fenced P (rnd rd)) P (lone (b.atR a (.code c :: .inLoop c :: k)) cs w) b k cs e a' w' := by
    intro n
    induction n using Nat.strongRecOn with
    | _ n ih =>
      intro g a w hn hk hW
      have hs := step g w hW (fun a' w' => ∃ g', μ g' < μ g ∧ Kn N (Df g') (Lf g') a' ∧ Wf g' w') (fun g' L'' w'' hlt hs hw'' a'' ha'' => ⟨g', hlt, ha''.sub hs, hw''⟩) a hk
      obtain ⟨e, a₁, w₁, hq, harr⟩ := hs b (.inLoop c :: k) cs hro hb hr
      cases e with
      | normal =>
        obtain ⟨g', hlt, hk', hW'⟩ := hq
        obtain ⟨e₂, a₂, w₂, hq₂, harr₂⟩ := ih (μ g') (hn ▸ hlt) g' a₁ w₁ rfl hk' hW'
        exact ⟨e₂, a₂, w₂, hq₂, .of_steps (StepsIn.trans harr (.one (fenced_calm hb hr rfl) stepR_inLoop)) harr₂⟩
      | exit id => exact ⟨_, a₁, w₁, hq, .pass (x := .inLoop c) rfl (fun _ _ => .inl (by simp)) harr⟩
      | goto l => exact ⟨_, a₁, w₁, hq, .pass (x := .inLoop c) rfl (fun _ _ => .inl (by simp)) harr⟩
      | ret => exact ⟨_, a₁, w₁, hq, .pass (x := .inLoop c) rfl (fun _ _ => .inl (by simp)) harr⟩
      | panic ch => exact ⟨_, a₁, w₁, hq, .pass (x := .inLoop c) rfl (fun _ _ => .inl (by simp)) harr⟩
      | outgrown => exact ⟨_, a₁, w₁, hq, .pass (x := .inLoop c) rfl (fun _ _ => .inl (by simp)) harr⟩
  obtain ⟨e, a', w', hq, harr⟩ := key _ g0 a w rfl ((hd0 ▸ ha).sub h0) hw
  exact ⟨e, a', w', hq, .of_steps (.one (fenced_calm hb hr rfl) stepR_loop) harr⟩
theorem f_enterM {R : Value → World → Prop} {f : FuncId} {fn : Func} {vs : List Value} (hf : P.funcs[f]? = some fn) (hb : fn.body = some c) (hn : Nat.ble vs.length N = true) (hN : fn.ntmps = N)
    (h : WC none P (bodyPostM (rnd none) 3 P fn fun e w' => ∃ v, e = .returned v ∧ R v w') N [] c (args 0 vs) w) : CallsV P f vs w R := by
  refine callsIn_wide.1 (callsIn_of_wp_marks (F := Fence.wide) (n := 3) hf hb trivial (h _ ⟨?_, rfl, ?_⟩))
  · have : vs.length ≤ N := Nat.le_of_ble_eq_true hn
    simp [hN]; omega
  · intro k v hk
    have ⟨_, h2⟩ := look_args vs 0 v hk
    rw [Array.getD_eq_getD_getElem?]
    have h3 : k < vs.length := by
      rcases Nat.lt_or_ge k vs.length with h | h
      · exact h
      · simp [List.getElem?_eq_none h] at h2
    rw [Array.getElem?_append_left (by simpa using h3)]
    simpa using congrArg (fun o => o.getD undef) h2

def tmpRes (L : Slots) : ResultVar → Option Value
  | .tmp t => look t L
  | .cell _ _ => none

theorem tmpRes.run {r : ResultVar} {v : Value} (h : tmpRes L r = some v) {a : Act} (ha : Kn N ds L a) (w : World) : (resOf a.tmps r).run P w = .ok v w := by
  cases r with
  | tmp t => simp only [resOf, Sem.run_pure]; rw [ha.get _ _ h]
  | cell s t => cases h

theorem f_retM {R : Value → World → Prop} {fn : Func} {v : Value} {base : Nat} (hr : ∀ a, Kn N ds L a → ∀ w, (results fn a.tmps).run P w = .ok v w) (hm : Marks base ds w) (hR : ∀ w', Upd (fun i => base ≤ i) w w' → R v w') :
    QK (bodyPostM (rnd none) 3 P fn (fun e w' => ∃ v, e = .returned v ∧ R v w') .ret) N ds L w := by
  intro a ha
  show LeavesInM (rnd none) 3 P fn a.tmps _ a.defers .returning w
  rw [ha.defers]
  exact leavesInM_marks (hr a ha) ds { w with heap := #[] } w hm (Nat.zero_le _) hR

theorem f_retM1 {R : Value → World → Prop} {fn : Func} {r : ResultVar} {v : Value} {base : Nat} (hf : fn.results = #[r]) (h1 : tmpRes L r = some v) (hm : Marks base ds w) (hR : ∀ w', Upd (fun i => base ≤ i) w w' → R v w') :
    QK (bodyPostM (rnd none) 3 P fn (fun e w' => ∃ v, e = .returned v ∧ R v w') .ret) N ds L w :=
  f_retM (fun a ha w => by
    have e1 := tmpRes.run (P := P) h1 ha w
    rw [results_of, hf]
    simp [e1]) hm hR

theorem f_retM2 {R : Value → World → Prop} {fn : Func} {r1 r2 : ResultVar} {v1 v2 : Value} {base : Nat} (hf : fn.results = #[r1, r2]) (h1 : tmpRes L r1 = some v1) (h2 : tmpRes L r2 = some v2) (hm : Marks base ds w) (hR : ∀ w', Upd (fun i => base ≤ i) w w' → R (.tuple #[v1, v2]) w') :
    QK (bodyPostM (rnd none) 3 P fn (fun e w' => ∃ v, e = .returned v ∧ R v w') .ret) N ds L w :=
  f_retM (fun a ha w => by
    have e1 := tmpRes.run (P := P) h1 ha w
    have e2 := tmpRes.run (P := P) h2 ha w
    rw [results_of, hf]
    simp [e1, e2]) hm hR

theorem f_retM4 {R : Value → World → Prop} {fn : Func} {r1 r2 r3 r4 : ResultVar} {v1 v2 v3 v4 : Value} {base : Nat} (hf : fn.results = #[r1, r2, r3, r4]) (h1 : tmpRes L r1 = some v1) (h2 : tmpRes L r2 = some v2) (h3 : tmpRes L r3 = some v3) (h4 : tmpRes L r4 = some v4) (hm : Marks base ds w) (hR : ∀ w', Upd (fun i => base ≤ i) w w' → R (.tuple #[v1, v2, v3, v4]) w') :
    QK (bodyPostM (rnd none) 3 P fn (fun e w' => ∃ v, e = .returned v ∧ R v w') .ret) N ds L w :=
  f_retM (fun a ha w => by
    have e1 := tmpRes.run (P := P) h1 ha w
    have e2 := tmpRes.run (P := P) h2 ha w
    have e3 := tmpRes.run (P := P) h3 ha w
    have e4 := tmpRes.run (P := P) h4 ha w
    rw [results_of, hf]
    simp [e1, e2, e3, e4]) hm hR
end steps
end Go.Proofs.YtagmodjadmecdaaGreat
