/-
  Crews: keeping the rules, minute by minute. Conditions: none.
-/
import Derived.Test.YtagmodjadmecdaaGreatHA16
namespace Go.Proofs.YtagmodjadmecdaaGreat
open Go Go.RowKit

def Apart (x y : Sp) : Prop := (¬ LtS y x → x.e ≤ y.b) ∧ (¬ LtS x y → y.e ≤ x.b)
theorem Apart.symm {x y : Sp} (h : Apart x y) : Apart y x := ⟨h.2, h.1⟩
def wrk (l : List Sp) : Int := sumI2 (l.map fun s => s.e - s.b)
def Piece (r : Rul) (q : List Sp) (y : Shf) (a c d : List Sp) : Prop := q = a ++ c ++ d ∧ (∃ s0 c', c = s0 :: c' ∧ y.b = s0.b ∧ s0.e ≤ y.e ∧ ∀ M, s0.e ≤ M → (∀ s ∈ c, s.b < M + r.rest → s.e ≤ M) → y.e ≤ M) ∧ (∀ s ∈ a, s.e ≤ y.b) ∧ (∀ s ∈ d, y.e + r.rest ≤ s.b) ∧ (∀ s ∈ c, y.b ≤ s.b ∧ s.e ≤ y.e) ∧ y.w = wrk c
theorem sumW_app (a b : List Sp) (x y : Int) : sumW (a ++ b) x y = sumW a x y + sumW b x y := by unfold sumW; rw [List.map_append, sumI2_app]
theorem sumW_full {c : List Sp} {x y : Int} (h : ∀ s ∈ c, x ≤ s.b ∧ s.e ≤ y ∧ s.b ≤ s.e) : sumW c x y = wrk c := by
  induction c with
  | nil => rfl
  | cons s c ih =>
    rw [sumW_cons, ih fun z hz => h z (by simp [hz])]
    have := h s (by simp)
    show inW s x y + wrk c = (s.e - s.b) + wrk c
    unfold inW; omega
theorem Piece.work {r : Rul} {q : List Sp} {y : Shf} {a c d : List Sp} (hr : 0 ≤ r.rest) (h : Piece r q y a c d) (ho : ∀ x ∈ q, OkSp x) : sumW q y.b y.e = y.w := by
  obtain ⟨h1, _, h2, h3, h4, h5⟩ := h
  rw [h1, sumW_app, sumW_app, sumW_zero (l := a), sumW_zero (l := d), sumW_full (c := c), h5]
  · omega
  · intro s hs; have := h4 s hs; have := ho s (by rw [h1]; simp [hs]); unfold OkSp at this; omega
  · intro s hs; have := h3 s hs; unfold inW; omega
  · intro s hs; have := h2 s hs; unfold inW; omega
end Go.Proofs.YtagmodjadmecdaaGreat
