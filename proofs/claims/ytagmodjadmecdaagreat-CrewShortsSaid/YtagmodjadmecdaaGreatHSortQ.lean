/-
  slices.SortFunc at a slice type that has a name of its own: the library's pdqsortCmpFunc and bits.Len: the shelf's contracts in the words of this seat. Conditions: none; they hold over any program.
-/
import Derived.Test.YtagmodjadmecdaaGreatHSort
import Derived.Test.YtagmodjadmecdaaGreatHGr
namespace Go.Proofs.YtagmodjadmecdaaGreat
open Go Go.RowKit

theorem Gr.grow {w w' : World} (h : Gr w w') : ∃ q os', w' = Go.Sort.grow (w.drewN q) os' := by
  obtain ⟨h1, h2, h3, h4, os, h5⟩ := h
  refine ⟨w'.drawn - w.drawn, os, ?_⟩
  cases w; cases w'
  simp only [Go.Sort.grow, World.drewN] at *
  simp_all
theorem len_c {P : Program} {ρ : Go.Shelf.Ren} (L : SlLaysF0.n14 P ρ) (n : Nat) (hn : n ≤ 1000000) (w : World) : CallsV P (ρ.f 15) [.int .u64 (n : Int)] w fun v w' => ∃ k : Nat, v = .int .i64 (k : Int) ∧ k < 4611686018427387904 ∧ Ext w w' := by
  have h := Any.bits_Len (SlLaysF0.n15.bits (P := P) (ρ := ρ) { L with }) (n : Int) w (by omega) (by omega)
  rw [Int.toNat_natCast] at h
  refine Calls.mono h ?_
  rintro e w' ⟨rfl, rfl⟩
  exact ⟨_, rfl, Lib.bitLen n, rfl, Nat.lt_of_le_of_lt (Lib.bitLen_le n 62 (by omega) (by omega)) (by omega), Upd.refl _ _⟩
theorem pdq_c {α : Type} [Inhabited α] {P : Program} {ρ : Go.Shelf.Ren} (L : SlLaysF0.n14 P ρ) (k : Nat) (hk0 : 0 < k) (aE : ∀ w, (isAgg (ρ.t 24)).run P w = .ok true w) (zE : ∀ w, (sizeOf (ρ.t 24)).run P w = .ok k w) (enc : α → List Value) (hk : ∀ x, (enc x).length = k) (h1 : ∀ x, ∀ v ∈ enc x, v.oneCell' = true)
    (cf : α → α → Int) (hO : Go.Sort.SWO (ltOf cf)) (g : Nat) (eg : Own P g) (hcmp : CmpOk P g enc cf) (e : TypeId) (base : Nat) (ao : Option Addr) (gb cap : Nat) (xs : List α) (lim : Nat) (hlim : lim < 4611686018427387904) (w : World) (ha : Acc enc k e base w ao gb cap xs) (hlen : xs.length ≤ 1000000) :
    CallsV P (ρ.f 14) [.slice ao xs.length cap, .int .i64 0, .int .i64 (xs.length : Int), .int .i64 (lim : Int), .func (.func g) #[] #[]] w fun v w' => ∃ ys, List.Perm ys xs ∧ Asc cf ys ∧ Acc enc k e base w' ao gb cap ys ∧ Upd (fun i => i = gb ∧ base ≤ i) w w' ∧ v = .tuple #[] := by
  rcases Nat.eq_zero_or_pos xs.length with h0 | h0
  · have : xs = [] := List.eq_nil_of_length_eq_zero h0
    subst this
    refine Calls.mono (AnyF.pdqsortCmpFunc_none L ao cap lim _ w) ?_
    rintro e w' ⟨rfl, rfl⟩
    exact ⟨_, rfl, [], List.Perm.refl _, fun i j _ h => by simp at h, ha, Upd.refl _ _, rfl⟩
  · have hao := (ha.sl hk).addr h0
    have hb : base ≤ gb := by
      rcases ha.at_ with ⟨_, h2, _⟩ | ⟨_, h2, _⟩
      · subst h2; simp at h0
      · exact h2
    have hsz : xs.toArray.size = xs.length := by simp
    have hH := holdsK_acc hk0 hk ha h0
    have hc := AnyQ.pdqsortCmpFunc_all L k aE zE enc cf g #[] hO gb 0 cap xs.toArray w (fun args w => eg.run args w) (fun m os dk _ x y => hcmp x y _) ⟨hk, h1, hH, ha.lt⟩ (xs.length + 1) 0 xs.length lim xs.toArray w (by omega) rfl (SWK.start hH) (Nat.zero_le _) (by rw [hsz]; exact Nat.le_refl _) (by rw [hsz]; omega) hlim (Or.inl rfl)
    rw [hsz] at hc
    subst hao
    refine Calls.mono hc ?_
    rintro e w' ⟨rfl, n, os, rfl⟩
    have hps := Go.Sort.pdq_sorts (ltOf cf) hO xs.toArray 0 xs.length lim true true (Nat.zero_le _) (by rw [hsz]; exact Nat.le_refl _) (Or.inl rfl)
    have hp := hps.1
    have hs := hps.2
    generalize Go.Sort.pdq (ltOf cf) xs.toArray 0 xs.length lim true true = d' at hp hs ⊢
    have hds : d'.size = xs.length := by rw [hp.1]; simp
    have hdl : d'.toList.length = xs.length := by simpa using hds
    have hacc := acc_sorted hk0 hk ha h0 d' hds n os
    refine ⟨_, rfl, d'.toList, ?_, ?_, hacc, (upd_sorted enc k w gb n d' os).mono (fun i hi => ⟨hi, by omega⟩), rfl⟩
    · have h3 := hp.2.2
      rw [show d'.extract 0 xs.length = d' from by rw [← hds]; exact Array.extract_size, show xs.toArray.extract 0 xs.length = xs.toArray from by rw [← hsz]; exact Array.extract_size] at h3
      simpa using h3
    · intro i j hij hj
      have h4 := hs i j (Nat.zero_le _) hij (by omega)
      have hn : ∀ i, d'[i]! = nth d'.toList i := fun i => by have := nth_toArray d'.toList i; simpa using this
      rw [hn, hn] at h4
      unfold ltOf at h4
      simpa using h4
end Go.Proofs.YtagmodjadmecdaaGreat
