/-
  A loop, round by round; lists of bytes. Conditions: none; they hold over any program.
-/
import Derived.Test.YtagmodjadmecdaaGreatHAcc
import Derived.LoopNIn
namespace Go.Proofs.YtagmodjadmecdaaGreat
open Go Go.RowKit
section
variable {rd : Option Nat} {P : Program} {N : Nat} {ds : List Deferred} {Q : Exit → Act → World → Prop} {L L' : Slots} {w : World} {c : Code} {m : Nat}
def WR (rd : Option Nat) (P : Program) (Q : Exit → Act → World → Prop) (N : Nat) (ds : List Deferred) (c : Code) (m : Nat) (L : Slots) (w : World) : Prop := ∀ a, Kn N ds L a → Code.roundsIn (rnd rd) 3 P c Q m a w
theorem c_rounds (m : Nat) (h : WR rd P Q N ds c m L w) : WC rd P Q N ds (.loop c) L w := fun a ha => wpIn_loop_rounds m (h a ha)
theorem r_round (h : ∀ K : Act → World → Prop, (∀ L'' w'', WR rd P Q N ds c m L'' w'' → QK K N ds L'' w'') → WC rd P (Exit.then K Q) N ds c L w) : WR rd P Q N ds c (m + 1) L w :=
  fun a ha => h (Code.roundsIn (rnd rd) 3 P c Q m) (fun _ _ h2 a' ha' => h2 a' ha') a ha
theorem WR.weak (L' : Slots) (hs : Sub L' L) (h : WR rd P Q N ds c m L' w) : WR rd P Q N ds c m L w := fun a ha => h a (ha.sub hs)
end
end Go.Proofs.YtagmodjadmecdaaGreat
