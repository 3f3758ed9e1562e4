/-
  A range over a function whose body may leave the function that it stands in. Conditions: none; it holds over any program.
-/
import Derived.Test.YtagmodjadmecdaaGreatHYld
namespace Go.Proofs.YtagmodjadmecdaaGreat
open Go Go.RowKit

def postL (B : Nat) (Z Zf : World → Prop) (W : World) : Exit → Act → World → Prop
  | .normal, _, W' => KeepsFrom B W W' ∧ Z W'
  | .ret, _, W' => KeepsFrom B W W' ∧ Zf W'
  | _, _, _ => False

structure HandsL {γ : Type} (P : Program) (l D : Nat) (enc : γ → Value) (Y Z Zf : γ → World → Prop) (R Rf : World → Prop) : Prop where
  keep : ∀ {W W' : World} {S : Nat → Prop}, R W → Upd S W W' → ¬ S l → ¬ S D → R W'
  keepf : ∀ {W W' : World} {S : Nat → Prop}, Rf W → Upd S W W' → ¬ S l → ¬ S D → Rf W'
  cell : ∀ {W : World} {b : Nat} {t : TypeId} {cs : List Value}, R W → Blk W b t cs → b ≠ l ∧ b ≠ D
  hand : ∀ x W, Y x W → R W → YieldAt Fence.wide 3 P l #[enc x] W fun e W' => (e = .returned (.bool true) ∧ Z x W' ∧ R W') ∨ (e = .returned (.bool false) ∧ Zf x W' ∧ Rf W')

section
variable {P : Program} {Q : Exit → Act → World → Prop} {N : Nat} {ds : List Deferred} {L : Slots} {w : World}

theorem c_rangeL {γ : Type} {go : Operand} {p : Nat} {assign body : Code} {gf : Nat} {lb : List Value} {enc : γ → Value} (ho : Own P gf)
    (hp : Nat.blt p N = true) (hg : ev L go = some (.func (.func gf) #[] lb.toArray))
    (Y Z Zf : γ → World → Prop) (E Ef : World → Prop) (hZo : Turned (w.heap.size + 1) Z) (hZfo : Turned (w.heap.size + 1) Zf) (hEo : Turned (w.heap.size + 1) (fun (_ : Unit) W => E W)) (hEfo : Turned (w.heap.size + 1) (fun (_ : Unit) W => Ef W))
    (hiter : ∀ (l D : Nat) (R Rf : World → Prop) (W : World), D = w.heap.size → l = w.heap.size + 1 → W.heap.size = w.heap.size + 2 → Ext w W → HandsL P l D enc Y Z Zf R Rf → R W →
      CallsV P gf (.func (.yield l) #[] #[] :: lb) W (fun _ W' => (E W' ∧ R W') ∨ (Ef W' ∧ Rf W')))
    {δ : Type} (La : γ → δ → Slots) (Y' : γ → δ → World → Prop) (hYo' : ∀ d, Turned (w.heap.size + 1) (fun x W => Y' x d W))
    (hassign : ∀ (l : Nat) (x : γ) (W : World) (K : Act → World → Prop), Y x W → (∀ d L' W', Sub (La x d) L' → Ext W W' → Y' x d W' → QK K N [] L' W') → WC (some l) P (Exit.then K (fun _ _ _ => False)) N [] assign ((p, enc x) :: L) W)
    (hbody : ∀ (l : Nat) (x : γ) (d : δ) (W : World), Y' x d W → WC (some l) P (postL w.heap.size (Z x) (Zf x) W) N [] body (La x d) W)
    (hleft : ∀ (D : Nat) (W : World), w.heap.size ≤ D → Ef W → W.heap[D]? = some (.deferred (some [])) → QK (Q .ret) N (mark D :: ds) L W)
    (hdone : ∀ (D : Nat) (W : World), w.heap.size ≤ D → E W → W.heap[D]? = some (.deferred (some [])) → QK (Q .normal) N (mark D :: ds) L W) :
    WC none P Q N ds (.rangeFunc go #[p] assign body) L w := by
  intro a ha
  refine wpIn_rangeFunc (F := Fence.wide) (n := 3) fun fn hfn => ?_
  let rec_ : LoopState → Option Code → Loop := fun st pd => { state := st, pending := pd, fn, tmps := a.tmps, params := #[p], assign, body, defers := w.heap.size }
  have hsz : ((w.alloc (.deferred (some []))).alloc (.loop (rec_ .ready none))).heap.size = w.heap.size + 2 := by simp
  have hD1 : ((w.alloc (.deferred (some []))).alloc (.loop (rec_ .ready none))).heap[w.heap.size]? = some (.deferred (some [])) :=
    ((Upd.alloc (w.alloc (.deferred (some []))) (.loop (rec_ .ready none))).block _ (by simp) id).trans (World.alloc_heap_new w _)
  have hL1 : ((w.alloc (.deferred (some []))).alloc (.loop (rec_ .ready none))).heap[w.heap.size + 1]? = some (.loop (rec_ .ready none)) := by
    have := World.alloc_heap_new (w.alloc (.deferred (some []))) (.loop (rec_ .ready none)); rwa [World.size_alloc] at this
  have hE1 : Ext w ((w.alloc (.deferred (some []))).alloc (.loop (rec_ .ready none))) := (Upd.alloc _ _).trans (Upd.alloc _ _)
  refine ⟨w.heap.size + 1, [{ target := .collected w.heap.size, args := #[] }], (w.alloc (.deferred (some []))).alloc (.loop (rec_ .ready none)), { target := .fn (.func gf) lb.toArray, args := #[.func (.yield (w.heap.size + 1)) #[] #[]] }, (w.alloc (.deferred (some []))).alloc (.loop (rec_ .ready none)), gf,
    #[.func (.yield (w.heap.size + 1)) #[] #[]] ++ lb.toArray, (w.alloc (.deferred (some []))).alloc (.loop (rec_ .ready none)), ?_, ?_, fun _ _ => trivial, ?_, fun _ => by decide, ?_⟩
  · exact run_enterLoop_outer _ _ _ _ _
  · simp only [resolve, ha.ev hg]
    simp [go_sem]
  · simp [invoke, go_sem, ho.run]
  · have hH : HandsL P (w.heap.size + 1) w.heap.size enc Y Z Zf (fun W => W.heap[w.heap.size + 1]? = some (.loop (rec_ .ready none)) ∧ W.heap[w.heap.size]? = some (.deferred (some []))) (fun W => W.heap[w.heap.size + 1]? = some (.loop (rec_ .done (some .ret))) ∧ W.heap[w.heap.size]? = some (.deferred (some []))) := by
      refine ⟨fun {W W' S} h u h1 h2 => ⟨(u.block _ (lt_of_block h.1) h1).trans h.1, (u.block _ (lt_of_block h.2) h2).trans h.2⟩, fun {W W' S} h u h1 h2 => ⟨(u.block _ (lt_of_block h.1) h1).trans h.1, (u.block _ (lt_of_block h.2) h2).trans h.2⟩, fun {W b t cs} h hb => ⟨fun e => ?_, fun e => ?_⟩, ?_⟩
      · subst e; unfold Blk at hb; rw [h.1] at hb; cases hb
      · subst e; unfold Blk at hb; rw [h.2] at hb; cases hb
      rintro x W hy ⟨hl, hd⟩
      have hyl := run_yield (P := P) (args := #[enc x]) hl rfl
      refine ⟨fn, _, assign, body, hyl, roundIn_of_wpIn (F := Fence.wide) (n := 3) hfn ?_⟩
      have hk : Kn N [] ((p, enc x) :: L) { tmps := (#[p].zip #[enc x]).foldl (fun t (p, v) => t.setIfInBounds p v) a.tmps, defers := [] } := by
        have h1 : Kn N [] L { a with defers := [] } := ⟨ha.size, rfl, ha.get⟩
        have h2 := h1.put (enc x) hp
        refine ⟨by simpa [Act.put] using h2.size, rfl, fun k v hv => ?_⟩
        have := h2.get k v hv
        simpa [Act.put] using this
      refine hassign (w.heap.size + 1) x W _ hy (fun δ L' W hs hu hy' a' ha' => ?_) _ hk
      replace hl := (hu.block _ (lt_of_block hl) (fun h => h)).trans hl
      replace hd := (hu.block _ (lt_of_block hd) (fun h => h)).trans hd
      have hlt := lt_of_block hl
      refine ⟨_, run_beginRound hl rfl, ?_⟩
      have hl2 : (W.putObj (w.heap.size + 1) (.loop { rec_ .ready none with state := .busy })).heap[w.heap.size + 1]? = some (.loop { rec_ .ready none with state := .busy }) := World.putObj_heap_same hlt
      have hd2 : (W.putObj (w.heap.size + 1) (.loop { rec_ .ready none with state := .busy })).heap[w.heap.size]? = some (.deferred (some [])) := (World.putObj_heap_other (by omega)).trans hd
      refine wpIn_mono (hbody (w.heap.size + 1) x δ _ (hYo' _ _ _ _ hy' ⟨_, hl⟩ (Upd.putObj _ _ _)) a' (ha'.sub hs)) ?_
      rintro e a3 W3 hp3
      cases e with
      | normal =>
        obtain ⟨hk3, hz⟩ := hp3
        have hl3 := hk3.same _ _ (by omega) hl2 rfl
        have hd3 := hk3.same _ _ (Nat.le_refl _) hd2 rfl
        exact ⟨_, _, run_endRound none hl3, .inl ⟨rfl, hZo _ _ _ hz ⟨_, hl3⟩ (Upd.putObj _ _ _), World.putObj_heap_same (lt_of_block hl3), (World.putObj_heap_other (by omega)).trans hd3⟩⟩
      | ret =>
        obtain ⟨hk3, hz⟩ := hp3
        have hl3 := hk3.same _ _ (by omega) hl2 rfl
        have hd3 := hk3.same _ _ (Nat.le_refl _) hd2 rfl
        exact ⟨_, _, run_endRound (some .ret) hl3, .inr ⟨rfl, hZfo _ _ _ hz ⟨_, hl3⟩ (Upd.putObj _ _ _), World.putObj_heap_same (lt_of_block hl3), (World.putObj_heap_other (by omega)).trans hd3⟩⟩
      | exit id => exact hp3.elim
      | goto t => exact hp3.elim
      | panic ch => exact hp3.elim
      | outgrown => exact hp3.elim
    have hc := hiter (w.heap.size + 1) w.heap.size _ _ _ rfl rfl hsz hE1 hH ⟨hL1, hD1⟩
    have e0 : (#[Value.func (.yield (w.heap.size + 1)) #[] #[]] ++ lb.toArray : Array Value) = (Value.func (.yield (w.heap.size + 1)) #[] #[] :: lb).toArray := by simp
    rw [e0]
    refine callsIn_wide.2 (Calls.mono hc ?_)
    rintro e W2 ⟨v, rfl, ⟨hE, hl, hd⟩ | ⟨hE, hl, hd⟩⟩
    · refine ⟨none, _, run_endLoop hl (by simp [rec_]), ?_⟩
      refine hdone w.heap.size _ (Nat.le_refl _) (hEo () _ _ hE ⟨_, hl⟩ (Upd.putObj _ _ _)) ((World.putObj_heap_other (by omega)).trans hd) _ ⟨ha.size, ?_, ha.get⟩
      simp [ha.defers, mark]
    · refine ⟨some .ret, _, run_endLoop hl (by simp [rec_]), wpIn_ret ?_⟩
      refine hleft w.heap.size _ (Nat.le_refl _) (hEfo () _ _ hE ⟨_, hl⟩ (Upd.putObj _ _ _)) ((World.putObj_heap_other (by omega)).trans hd) _ ⟨ha.size, ?_, ha.get⟩
      simp [ha.defers, mark]
end
end Go.Proofs.YtagmodjadmecdaaGreat
