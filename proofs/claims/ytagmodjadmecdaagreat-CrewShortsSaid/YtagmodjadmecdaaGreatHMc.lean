/-
  The end of a function that ranges over functions and returns a variable that lies in memory. Conditions: none; it holds over any program.
-/
import Derived.Test.YtagmodjadmecdaaGreatHRng
namespace Go.Proofs.YtagmodjadmecdaaGreat
open Go Go.RowKit

abbrev OffMarks (ds : List Deferred) (w w' : World) : Prop := Upd (fun i => ∃ d ∈ ds, d = mark i) w w'
theorem leavesInM_marksC {P : Program} {fn : Func} {tmps : Array Value} {R : Value → World → Prop} {base : Nat} {v : Value} : ∀ (ds : List Deferred) (w : World), (∀ w', OffMarks ds w w' → (results fn tmps).run P w' = .ok v w') → Marks base ds w → (∀ w', Upd (fun i => base ≤ i) w w' → OffMarks ds w w' → R v w') →
    LeavesInM (rnd none) 3 P fn tmps (fun e w' => ∃ v, e = .returned v ∧ R v w') ds .returning w
  | [], w, hr, _, hR => ⟨v, hr w (Upd.refl _ _), v, rfl, hR w (Upd.refl _ _) (Upd.refl _ _)⟩
  | d :: ds, w, hr, h, hR => by
    obtain ⟨⟨D, rfl, h2, h3, h4⟩, h5⟩ := h
    refine ⟨by simp, .inl ⟨D, _, rfl, run_takeDeferred h3, ?_⟩⟩
    have u := Upd.putObj w D (.deferred none)
    have hm : Marks base ds (w.putObj D (.deferred none)) := h5.keepLow u h4 (fun k hk => by omega)
    have uo : ∀ {w'}, OffMarks ds (w.putObj D (.deferred none)) w' → OffMarks (mark D :: ds) w w' := fun {w'} h => (u.mono (fun k hk => ⟨mark D, by simp, by subst hk; rfl⟩)).trans (h.mono (fun k ⟨d, h1, h2⟩ => ⟨d, by simp [h1], h2⟩))
    exact leavesInM_marksC ds _ (fun w' h => hr w' (uo h)) hm (fun w' u' h => hR w' ((u.mono (fun k hk => by omega)).trans u') (uo h))
theorem Marks.notCells {base : Nat} {b : Nat} {c : Array Value} {t : TypeId} {f : Nat × Nat} : ∀ {ds : List Deferred} {w : World}, Marks base ds w → w.heap[b]? = some (.cells c t f) → ¬ ∃ d ∈ ds, d = mark b
  | [], _, _, _, h => by obtain ⟨_, h, _⟩ := h; cases h
  | d :: ds, w, h, hb, hq => by
    obtain ⟨⟨D, h1, h2, h3, h4⟩, h5⟩ := h
    obtain ⟨d', hd, e⟩ := hq
    rcases List.mem_cons.1 hd with rfl | hd
    · rw [h1] at e
      injection e with e
      injection e with e
      subst e
      rw [h3] at hb
      cases hb
    · exact h5.notCells hb ⟨d', hd, e⟩
theorem Marks.notBlk {base : Nat} {b : Nat} {t : TypeId} {cs : List Value} {ds : List Deferred} {w : World} (h : Marks base ds w) (hb : Blk w b t cs) : ¬ ∃ d ∈ ds, d = mark b := h.notCells hb
theorem Marks.notAcc {α : Type} {enc : α → List Value} {k : Nat} {e : TypeId} {base base' : Nat} {ds : List Deferred} {w : World} {ao : Option Addr} {g cap : Nat} {xs : List α} (h : Marks base ds w) (ha : Acc enc k e base' w ao g cap xs) (hp : 0 < xs.length) : ¬ ∃ d ∈ ds, d = mark g := by
  rcases ha.at_ with ⟨_, h1, _⟩ | ⟨_, _, cur, h3, _⟩
  · subst h1; simp at hp
  · exact h.notCells h3
def ResM (P : Program) (ds : List Deferred) (w : World) (L : Slots) (r : ResultVar) (v : Value) : Prop := ∀ w', OffMarks ds w w' → Res P w' L r v
theorem ResM.tmp {P : Program} {ds : List Deferred} {w : World} {L : Slots} {t : Nat} {v : Value} (h : look t L = some v) : ResM P ds w L (.tmp t) v := fun _ _ => h
theorem ResM.cell {P : Program} {ds : List Deferred} {w : World} {L : Slots} {s t b off base : Nat} {t' : TypeId} {cs : List Value} {v : Value} (hm : Marks base ds w) (hl : look s L = some (.pointer (some ⟨b, off, none⟩))) (ha : ∀ w, (isAgg t).run P w = .ok false w) (hb : Blk w b t' cs) (hv : cs[off]? = some v) : ResM P ds w L (.cell s t) v :=
  fun w' u => ⟨b, off, hl, run_loadVar1 ha ((hb.keep u (hm.notBlk hb)).get hv)⟩

section steps
variable {P : Program} {N : Nat} {ds : List Deferred} {L : Slots} {w : World}
theorem f_retMc2 {R : Value → World → Prop} {fn : Func} {r1 r2 : ResultVar} {v1 v2 : Value} {base : Nat} (hf : fn.results = #[r1, r2]) (h1 : ResM P ds w L r1 v1) (h2 : ResM P ds w L r2 v2) (hm : Marks base ds w) (hR : ∀ w', Upd (fun i => base ≤ i) w w' → OffMarks ds w w' → R (.tuple #[v1, v2]) w') :
    QK (bodyPostM (rnd none) 3 P fn (fun e w' => ∃ v, e = .returned v ∧ R v w') .ret) N ds L w := by
  intro a ha
  show LeavesInM (rnd none) 3 P fn a.tmps _ a.defers .returning w
  rw [ha.defers]
  refine leavesInM_marksC ds w (fun w' u => ?_) hm hR
  have e1 := Res.run (h1 w' u) ha
  have e2 := Res.run (h2 w' u) ha
  rw [results_of, hf]
  simp [e1, e2]
theorem f_retMc0 {R : Value → World → Prop} {fn : Func} {base : Nat} (hf : fn.results = #[]) (hm : Marks base ds w) (hR : ∀ w', Upd (fun i => base ≤ i) w w' → OffMarks ds w w' → R (.tuple #[]) w') :
    QK (bodyPostM (rnd none) 3 P fn (fun e w' => ∃ v, e = .returned v ∧ R v w') .ret) N ds L w := by
  intro a ha
  show LeavesInM (rnd none) 3 P fn a.tmps _ a.defers .returning w
  rw [ha.defers]
  refine leavesInM_marksC ds w (fun w' u => ?_) hm hR
  rw [results_of, hf]
  simp
theorem f_retMc1 {R : Value → World → Prop} {fn : Func} {r1 : ResultVar} {v : Value} {base : Nat} (hf : fn.results = #[r1]) (h1 : ResM P ds w L r1 v) (hm : Marks base ds w) (hR : ∀ w', Upd (fun i => base ≤ i) w w' → OffMarks ds w w' → R v w') :
    QK (bodyPostM (rnd none) 3 P fn (fun e w' => ∃ v, e = .returned v ∧ R v w') .ret) N ds L w := by
  intro a ha
  show LeavesInM (rnd none) 3 P fn a.tmps _ a.defers .returning w
  rw [ha.defers]
  refine leavesInM_marksC ds w (fun w' u => ?_) hm hR
  have e1 := Res.run (h1 w' u) ha
  rw [results_of, hf]
  simp [e1]
end steps
end Go.Proofs.YtagmodjadmecdaaGreat
