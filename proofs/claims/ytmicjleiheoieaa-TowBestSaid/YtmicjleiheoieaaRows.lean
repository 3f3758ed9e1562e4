/-
  No cell of these rows narrows 'for every input' (looked for: loops, veiled, ifaces, maps, wideKeys, modest, calm, conditions, laid).
  DERIVED. THE GIVEN ROWS OF THIS SEAT. 13 by the template 'for every input the law returns true; each argument reads behind the call as it read before'; 0 by the template 'total and deterministic' (their statements: YtmicjleiheoieaaTotals.lean).
  GIVEN WITH THE SEED: the statements are not yours to turn. If you find one false, say at which input.
  Laid BY PROGRAM, IN A SANDBOX (cutbox-rows.mjs): the forced cells as the released guide's own fill.sh prints them over the translation 543d56ccc83bbb9f… (all of the seat's roots in one cut). By AI agents, Wed Nov 11 2026. No macro, syntax, notation, axiom, sorry.
-/
import Derived.Test.YtmicjleiheoieaaChecked
import GoSem.Claim
import GoSem.ClaimJoined
import GoSem.ClaimMapViews
import Derived.JoinedTies
import Derived.KernelRfl
namespace Go.Proofs.Ytmicjleiheoieaa
/- THE CELL 'sum', in the pinned program and in every row, IS THE sha256 OF THE DUMP (.gsa) THAT YtmicjleiheoieaaProg.lean LOADS. Nothing in Lean hashes anything: it is a label: what it is worth is what the hold of that sum in a sandbox is worth. -/
noncomputable def Try.pinned : Pinned := { name := "ytmicjleiheoieaa", sum := "543d56ccc83bbb9fef5846c600ea5a4acd571de33d30f32bd17621611cb2a04e", checked := Try.checked }
namespace Rows
def none {H : Type} : Left H := { results := [], args := [] }

/-- 'thalweglaw03.TowStacks': WHATEVER THE INPUT: true; the input reads as it did. -/
def towStacksSpec : ChangeSpec := { name := "towStacks", fn := fun _ => fun
  | [d1, d2, d3] => { results := [.lit (.bool true)], args := [d1, d2, d3] }
  | _ => none }
def towStacksRow : OpenClaim := { program := "ytmicjleiheoieaa", sum := "543d56ccc83bbb9fef5846c600ea5a4acd571de33d30f32bd17621611cb2a04e", func := "thalweg/thalweglaw03.TowStacks", spec := "towStacks", unfollowed := true, recurses := true, plainKeys := false, apart := false }
def TowStacksSaid : Prop := towStacksRow.holds Try.pinned (OpenSpec.ofChange towStacksSpec)

/-- ITS FALSE NEIGHBOUR: 'it returns false'. Refute it at one input. -/
def towStacksWrong : ChangeSpec := { name := "towStacks", fn := fun _ => fun
  | [d1, d2, d3] => { results := [.lit (.bool false)], args := [d1, d2, d3] }
  | _ => none }
def TowStacksWrongFalsely : Prop := towStacksRow.holds Try.pinned (OpenSpec.ofChange towStacksWrong)

/-- 'thalweglaw03.TowHolds': WHATEVER THE INPUT: true; the input reads as it did. -/
def towHoldsSpec : ChangeSpec := { name := "towHolds", fn := fun _ => fun
  | [d1, d2] => { results := [.lit (.bool true)], args := [d1, d2] }
  | _ => none }
def towHoldsRow : OpenClaim := { program := "ytmicjleiheoieaa", sum := "543d56ccc83bbb9fef5846c600ea5a4acd571de33d30f32bd17621611cb2a04e", func := "thalweg/thalweglaw03.TowHolds", spec := "towHolds", unfollowed := true, recurses := true, plainKeys := false, apart := false }
def TowHoldsSaid : Prop := towHoldsRow.holds Try.pinned (OpenSpec.ofChange towHoldsSpec)

/-- ITS FALSE NEIGHBOUR: 'it returns false'. Refute it at one input. -/
def towHoldsWrong : ChangeSpec := { name := "towHolds", fn := fun _ => fun
  | [d1, d2] => { results := [.lit (.bool false)], args := [d1, d2] }
  | _ => none }
def TowHoldsWrongFalsely : Prop := towHoldsRow.holds Try.pinned (OpenSpec.ofChange towHoldsWrong)

/-- 'thalweglaw03.TowArrives': WHATEVER THE INPUT: true; the input reads as it did. -/
def towArrivesSpec : ChangeSpec := { name := "towArrives", fn := fun _ => fun
  | [d1, d2] => { results := [.lit (.bool true)], args := [d1, d2] }
  | _ => none }
def towArrivesRow : OpenClaim := { program := "ytmicjleiheoieaa", sum := "543d56ccc83bbb9fef5846c600ea5a4acd571de33d30f32bd17621611cb2a04e", func := "thalweg/thalweglaw03.TowArrives", spec := "towArrives", unfollowed := true, recurses := true, plainKeys := false, apart := false }
def TowArrivesSaid : Prop := towArrivesRow.holds Try.pinned (OpenSpec.ofChange towArrivesSpec)

/-- ITS FALSE NEIGHBOUR: 'it returns false'. Refute it at one input. -/
def towArrivesWrong : ChangeSpec := { name := "towArrives", fn := fun _ => fun
  | [d1, d2] => { results := [.lit (.bool false)], args := [d1, d2] }
  | _ => none }
def TowArrivesWrongFalsely : Prop := towArrivesRow.holds Try.pinned (OpenSpec.ofChange towArrivesWrong)

/-- 'thalweglaw03.TowEnds': WHATEVER THE INPUT: true; the input reads as it did. -/
def towEndsSpec : ChangeSpec := { name := "towEnds", fn := fun _ => fun
  | [d1, d2] => { results := [.lit (.bool true)], args := [d1, d2] }
  | _ => none }
def towEndsRow : OpenClaim := { program := "ytmicjleiheoieaa", sum := "543d56ccc83bbb9fef5846c600ea5a4acd571de33d30f32bd17621611cb2a04e", func := "thalweg/thalweglaw03.TowEnds", spec := "towEnds", unfollowed := true, recurses := true, plainKeys := false, apart := false }
def TowEndsSaid : Prop := towEndsRow.holds Try.pinned (OpenSpec.ofChange towEndsSpec)

/-- ITS FALSE NEIGHBOUR: 'it returns false'. Refute it at one input. -/
def towEndsWrong : ChangeSpec := { name := "towEnds", fn := fun _ => fun
  | [d1, d2] => { results := [.lit (.bool false)], args := [d1, d2] }
  | _ => none }
def TowEndsWrongFalsely : Prop := towEndsRow.holds Try.pinned (OpenSpec.ofChange towEndsWrong)

/-- 'thalweglaw03.TowMeasures': WHATEVER THE INPUT: true; the input reads as it did. -/
def towMeasuresSpec : ChangeSpec := { name := "towMeasures", fn := fun _ => fun
  | [d] => { results := [.lit (.bool true)], args := [d] }
  | _ => none }
def towMeasuresRow : OpenClaim := { program := "ytmicjleiheoieaa", sum := "543d56ccc83bbb9fef5846c600ea5a4acd571de33d30f32bd17621611cb2a04e", func := "thalweg/thalweglaw03.TowMeasures", spec := "towMeasures", unfollowed := true, recurses := true, plainKeys := false, apart := false }
def TowMeasuresSaid : Prop := towMeasuresRow.holds Try.pinned (OpenSpec.ofChange towMeasuresSpec)

/-- ITS FALSE NEIGHBOUR: 'it returns false'. Refute it at one input. -/
def towMeasuresWrong : ChangeSpec := { name := "towMeasures", fn := fun _ => fun
  | [d] => { results := [.lit (.bool false)], args := [d] }
  | _ => none }
def TowMeasuresWrongFalsely : Prop := towMeasuresRow.holds Try.pinned (OpenSpec.ofChange towMeasuresWrong)

/-- 'thalweglaw03.TowThrough': WHATEVER THE INPUT: true; the input reads as it did. -/
def towThroughSpec : ChangeSpec := { name := "towThrough", fn := fun _ => fun
  | [d1, d2, d3] => { results := [.lit (.bool true)], args := [d1, d2, d3] }
  | _ => none }
def towThroughRow : OpenClaim := { program := "ytmicjleiheoieaa", sum := "543d56ccc83bbb9fef5846c600ea5a4acd571de33d30f32bd17621611cb2a04e", func := "thalweg/thalweglaw03.TowThrough", spec := "towThrough", unfollowed := true, recurses := true, plainKeys := false, apart := false }
def TowThroughSaid : Prop := towThroughRow.holds Try.pinned (OpenSpec.ofChange towThroughSpec)

/-- ITS FALSE NEIGHBOUR: 'it returns false'. Refute it at one input. -/
def towThroughWrong : ChangeSpec := { name := "towThrough", fn := fun _ => fun
  | [d1, d2, d3] => { results := [.lit (.bool false)], args := [d1, d2, d3] }
  | _ => none }
def TowThroughWrongFalsely : Prop := towThroughRow.holds Try.pinned (OpenSpec.ofChange towThroughWrong)

/-- 'thalweglaw03.TowShortest': WHATEVER THE INPUT: true; the input reads as it did. -/
def towShortestSpec : ChangeSpec := { name := "towShortest", fn := fun _ => fun
  | [d1, d2, d3] => { results := [.lit (.bool true)], args := [d1, d2, d3] }
  | _ => none }
def towShortestRow : OpenClaim := { program := "ytmicjleiheoieaa", sum := "543d56ccc83bbb9fef5846c600ea5a4acd571de33d30f32bd17621611cb2a04e", func := "thalweg/thalweglaw03.TowShortest", spec := "towShortest", unfollowed := true, recurses := true, plainKeys := false, apart := false }
def TowShortestSaid : Prop := towShortestRow.holds Try.pinned (OpenSpec.ofChange towShortestSpec)

/-- ITS FALSE NEIGHBOUR: 'it returns false'. Refute it at one input. -/
def towShortestWrong : ChangeSpec := { name := "towShortest", fn := fun _ => fun
  | [d1, d2, d3] => { results := [.lit (.bool false)], args := [d1, d2, d3] }
  | _ => none }
def TowShortestWrongFalsely : Prop := towShortestRow.holds Try.pinned (OpenSpec.ofChange towShortestWrong)

/-- 'thalweglaw03.TowStops': WHATEVER THE INPUT: true; the input reads as it did. -/
def towStopsSpec : ChangeSpec := { name := "towStops", fn := fun _ => fun
  | [d1, d2, d3] => { results := [.lit (.bool true)], args := [d1, d2, d3] }
  | _ => none }
def towStopsRow : OpenClaim := { program := "ytmicjleiheoieaa", sum := "543d56ccc83bbb9fef5846c600ea5a4acd571de33d30f32bd17621611cb2a04e", func := "thalweg/thalweglaw03.TowStops", spec := "towStops", unfollowed := true, recurses := true, plainKeys := false, apart := false }
def TowStopsSaid : Prop := towStopsRow.holds Try.pinned (OpenSpec.ofChange towStopsSpec)

/-- ITS FALSE NEIGHBOUR: 'it returns false'. Refute it at one input. -/
def towStopsWrong : ChangeSpec := { name := "towStops", fn := fun _ => fun
  | [d1, d2, d3] => { results := [.lit (.bool false)], args := [d1, d2, d3] }
  | _ => none }
def TowStopsWrongFalsely : Prop := towStopsRow.holds Try.pinned (OpenSpec.ofChange towStopsWrong)

/-- 'thalweglaw03.TowBrakes': WHATEVER THE INPUT: true; the input reads as it did. -/
def towBrakesSpec : ChangeSpec := { name := "towBrakes", fn := fun _ => fun
  | [d] => { results := [.lit (.bool true)], args := [d] }
  | _ => none }
def towBrakesRow : OpenClaim := { program := "ytmicjleiheoieaa", sum := "543d56ccc83bbb9fef5846c600ea5a4acd571de33d30f32bd17621611cb2a04e", func := "thalweg/thalweglaw03.TowBrakes", spec := "towBrakes", unfollowed := true, recurses := true, plainKeys := false, apart := false }
def TowBrakesSaid : Prop := towBrakesRow.holds Try.pinned (OpenSpec.ofChange towBrakesSpec)

/-- ITS FALSE NEIGHBOUR: 'it returns false'. Refute it at one input. -/
def towBrakesWrong : ChangeSpec := { name := "towBrakes", fn := fun _ => fun
  | [d] => { results := [.lit (.bool false)], args := [d] }
  | _ => none }
def TowBrakesWrongFalsely : Prop := towBrakesRow.holds Try.pinned (OpenSpec.ofChange towBrakesWrong)

/-- 'thalweglaw03.TowTruths': WHATEVER THE INPUT: true; the input reads as it did. -/
def towTruthsSpec : ChangeSpec := { name := "towTruths", fn := fun _ => fun
  | [d1, d2, d3] => { results := [.lit (.bool true)], args := [d1, d2, d3] }
  | _ => none }
def towTruthsRow : OpenClaim := { program := "ytmicjleiheoieaa", sum := "543d56ccc83bbb9fef5846c600ea5a4acd571de33d30f32bd17621611cb2a04e", func := "thalweg/thalweglaw03.TowTruths", spec := "towTruths", unfollowed := true, recurses := true, plainKeys := false, apart := false }
def TowTruthsSaid : Prop := towTruthsRow.holds Try.pinned (OpenSpec.ofChange towTruthsSpec)

/-- ITS FALSE NEIGHBOUR: 'it returns false'. Refute it at one input. -/
def towTruthsWrong : ChangeSpec := { name := "towTruths", fn := fun _ => fun
  | [d1, d2, d3] => { results := [.lit (.bool false)], args := [d1, d2, d3] }
  | _ => none }
def TowTruthsWrongFalsely : Prop := towTruthsRow.holds Try.pinned (OpenSpec.ofChange towTruthsWrong)

/-- 'thalweglaw03.TowOrders': WHATEVER THE INPUT: true; the input reads as it did. -/
def towOrdersSpec : ChangeSpec := { name := "towOrders", fn := fun _ => fun
  | [d1, d2] => { results := [.lit (.bool true)], args := [d1, d2] }
  | _ => none }
def towOrdersRow : OpenClaim := { program := "ytmicjleiheoieaa", sum := "543d56ccc83bbb9fef5846c600ea5a4acd571de33d30f32bd17621611cb2a04e", func := "thalweg/thalweglaw03.TowOrders", spec := "towOrders", unfollowed := true, recurses := true, plainKeys := false, apart := false }
def TowOrdersSaid : Prop := towOrdersRow.holds Try.pinned (OpenSpec.ofChange towOrdersSpec)

/-- ITS FALSE NEIGHBOUR: 'it returns false'. Refute it at one input. -/
def towOrdersWrong : ChangeSpec := { name := "towOrders", fn := fun _ => fun
  | [d1, d2] => { results := [.lit (.bool false)], args := [d1, d2] }
  | _ => none }
def TowOrdersWrongFalsely : Prop := towOrdersRow.holds Try.pinned (OpenSpec.ofChange towOrdersWrong)

/-- 'thalweglaw03.TowBest': WHATEVER THE INPUT: true; the input reads as it did. -/
def towBestSpec : ChangeSpec := { name := "towBest", fn := fun _ => fun
  | [d1, d2, d3] => { results := [.lit (.bool true)], args := [d1, d2, d3] }
  | _ => none }
def towBestRow : OpenClaim := { program := "ytmicjleiheoieaa", sum := "543d56ccc83bbb9fef5846c600ea5a4acd571de33d30f32bd17621611cb2a04e", func := "thalweg/thalweglaw03.TowBest", spec := "towBest", unfollowed := true, recurses := true, plainKeys := false, apart := false }
def TowBestSaid : Prop := towBestRow.holds Try.pinned (OpenSpec.ofChange towBestSpec)

/-- ITS FALSE NEIGHBOUR: 'it returns false'. Refute it at one input. -/
def towBestWrong : ChangeSpec := { name := "towBest", fn := fun _ => fun
  | [d1, d2, d3] => { results := [.lit (.bool false)], args := [d1, d2, d3] }
  | _ => none }
def TowBestWrongFalsely : Prop := towBestRow.holds Try.pinned (OpenSpec.ofChange towBestWrong)

/-- 'thalweglaw03.TowHeld': WHATEVER THE INPUT: true; the input reads as it did. -/
def towHeldSpec : ChangeSpec := { name := "towHeld", fn := fun _ => fun
  | [d1, d2] => { results := [.lit (.bool true)], args := [d1, d2] }
  | _ => none }
def towHeldRow : OpenClaim := { program := "ytmicjleiheoieaa", sum := "543d56ccc83bbb9fef5846c600ea5a4acd571de33d30f32bd17621611cb2a04e", func := "thalweg/thalweglaw03.TowHeld", spec := "towHeld", unfollowed := true, recurses := true, plainKeys := false, apart := false }
def TowHeldSaid : Prop := towHeldRow.holds Try.pinned (OpenSpec.ofChange towHeldSpec)

/-- ITS FALSE NEIGHBOUR: 'it returns false'. Refute it at one input. -/
def towHeldWrong : ChangeSpec := { name := "towHeld", fn := fun _ => fun
  | [d1, d2] => { results := [.lit (.bool false)], args := [d1, d2] }
  | _ => none }
def TowHeldWrongFalsely : Prop := towHeldRow.holds Try.pinned (OpenSpec.ofChange towHeldWrong)

/- THE SECOND FORM. 'bulk': how many values and letters a reading holds, each counted each time it is reached (what is shared counts as often as it is met; a slice's spare places count too). A statement '..UptoSaid' is the law's where the arguments, and the package variables that the reading takes, are together of bulk at most 1048576: NARROWER than '..Said'. Prove '..Said' where nothing that the law and all that it calls make is longer than what came in: it says more and counts as full. Else prove '..UptoSaid'. A law counts once. -/
mutual
def uptoBulk {H : Type} : DataW H → Nat
  | .lit (.string bytes) => bytes.length + 1
  | .lit _ => 1
  | .nil => 1
  | .ptr d => uptoBulk d + 1
  | .slice elems spare => uptoBulkAll elems + uptoBulkAll spare + 1
  | .agg parts => uptoBulkAll parts + 1
  | .iface _ d => uptoBulk d + 1
  | .map entries => uptoBulkEntries entries + 1
  | .held _ => 1
def uptoBulkAll {H : Type} : List (DataW H) → Nat
  | [] => 0
  | d :: r => uptoBulk d + uptoBulkAll r
def uptoBulkEntries {H : Type} : List (Lit × DataW H) → Nat
  | [] => 0
  | x :: r => uptoBulkEntry x + uptoBulkEntries r
def uptoBulkEntry {H : Type} : Lit × DataW H → Nat
  | (.string bytes, d) => bytes.length + uptoBulk d + 1
  | (_, d) => uptoBulk d + 1
 end
def uptoSmall : (H : Type) → List (DataW H) → Bool := fun _ ds => decide (uptoBulkAll ds ≤ 1048576)
def OpenSpec.upto (s : _root_.Go.ChangeSpec) : _root_.Go.OpenSpec := { _root_.Go.OpenSpec.ofChange s with cond := some uptoSmall }

/-- 'thalweglaw03.TowStacks', WHERE WHAT IT READS IS OF BULK AT MOST 1048576: true; the input reads as it did. -/
def towStacksUptoRow : OpenClaim := { program := "ytmicjleiheoieaa", sum := "543d56ccc83bbb9fef5846c600ea5a4acd571de33d30f32bd17621611cb2a04e", func := "thalweg/thalweglaw03.TowStacks", spec := "towStacks", unfollowed := true, recurses := true, plainKeys := false, apart := false, narrowed := true }
def TowStacksUptoSaid : Prop := towStacksUptoRow.holds Try.pinned (OpenSpec.upto towStacksSpec)

/-- 'thalweglaw03.TowHolds', WHERE WHAT IT READS IS OF BULK AT MOST 1048576: true; the input reads as it did. -/
def towHoldsUptoRow : OpenClaim := { program := "ytmicjleiheoieaa", sum := "543d56ccc83bbb9fef5846c600ea5a4acd571de33d30f32bd17621611cb2a04e", func := "thalweg/thalweglaw03.TowHolds", spec := "towHolds", unfollowed := true, recurses := true, plainKeys := false, apart := false, narrowed := true }
def TowHoldsUptoSaid : Prop := towHoldsUptoRow.holds Try.pinned (OpenSpec.upto towHoldsSpec)

/-- 'thalweglaw03.TowArrives', WHERE WHAT IT READS IS OF BULK AT MOST 1048576: true; the input reads as it did. -/
def towArrivesUptoRow : OpenClaim := { program := "ytmicjleiheoieaa", sum := "543d56ccc83bbb9fef5846c600ea5a4acd571de33d30f32bd17621611cb2a04e", func := "thalweg/thalweglaw03.TowArrives", spec := "towArrives", unfollowed := true, recurses := true, plainKeys := false, apart := false, narrowed := true }
def TowArrivesUptoSaid : Prop := towArrivesUptoRow.holds Try.pinned (OpenSpec.upto towArrivesSpec)

/-- 'thalweglaw03.TowEnds', WHERE WHAT IT READS IS OF BULK AT MOST 1048576: true; the input reads as it did. -/
def towEndsUptoRow : OpenClaim := { program := "ytmicjleiheoieaa", sum := "543d56ccc83bbb9fef5846c600ea5a4acd571de33d30f32bd17621611cb2a04e", func := "thalweg/thalweglaw03.TowEnds", spec := "towEnds", unfollowed := true, recurses := true, plainKeys := false, apart := false, narrowed := true }
def TowEndsUptoSaid : Prop := towEndsUptoRow.holds Try.pinned (OpenSpec.upto towEndsSpec)

/-- 'thalweglaw03.TowMeasures', WHERE WHAT IT READS IS OF BULK AT MOST 1048576: true; the input reads as it did. -/
def towMeasuresUptoRow : OpenClaim := { program := "ytmicjleiheoieaa", sum := "543d56ccc83bbb9fef5846c600ea5a4acd571de33d30f32bd17621611cb2a04e", func := "thalweg/thalweglaw03.TowMeasures", spec := "towMeasures", unfollowed := true, recurses := true, plainKeys := false, apart := false, narrowed := true }
def TowMeasuresUptoSaid : Prop := towMeasuresUptoRow.holds Try.pinned (OpenSpec.upto towMeasuresSpec)

/-- 'thalweglaw03.TowThrough', WHERE WHAT IT READS IS OF BULK AT MOST 1048576: true; the input reads as it did. -/
def towThroughUptoRow : OpenClaim := { program := "ytmicjleiheoieaa", sum := "543d56ccc83bbb9fef5846c600ea5a4acd571de33d30f32bd17621611cb2a04e", func := "thalweg/thalweglaw03.TowThrough", spec := "towThrough", unfollowed := true, recurses := true, plainKeys := false, apart := false, narrowed := true }
def TowThroughUptoSaid : Prop := towThroughUptoRow.holds Try.pinned (OpenSpec.upto towThroughSpec)

/-- 'thalweglaw03.TowShortest', WHERE WHAT IT READS IS OF BULK AT MOST 1048576: true; the input reads as it did. -/
def towShortestUptoRow : OpenClaim := { program := "ytmicjleiheoieaa", sum := "543d56ccc83bbb9fef5846c600ea5a4acd571de33d30f32bd17621611cb2a04e", func := "thalweg/thalweglaw03.TowShortest", spec := "towShortest", unfollowed := true, recurses := true, plainKeys := false, apart := false, narrowed := true }
def TowShortestUptoSaid : Prop := towShortestUptoRow.holds Try.pinned (OpenSpec.upto towShortestSpec)

/-- 'thalweglaw03.TowStops', WHERE WHAT IT READS IS OF BULK AT MOST 1048576: true; the input reads as it did. -/
def towStopsUptoRow : OpenClaim := { program := "ytmicjleiheoieaa", sum := "543d56ccc83bbb9fef5846c600ea5a4acd571de33d30f32bd17621611cb2a04e", func := "thalweg/thalweglaw03.TowStops", spec := "towStops", unfollowed := true, recurses := true, plainKeys := false, apart := false, narrowed := true }
def TowStopsUptoSaid : Prop := towStopsUptoRow.holds Try.pinned (OpenSpec.upto towStopsSpec)

/-- 'thalweglaw03.TowBrakes', WHERE WHAT IT READS IS OF BULK AT MOST 1048576: true; the input reads as it did. -/
def towBrakesUptoRow : OpenClaim := { program := "ytmicjleiheoieaa", sum := "543d56ccc83bbb9fef5846c600ea5a4acd571de33d30f32bd17621611cb2a04e", func := "thalweg/thalweglaw03.TowBrakes", spec := "towBrakes", unfollowed := true, recurses := true, plainKeys := false, apart := false, narrowed := true }
def TowBrakesUptoSaid : Prop := towBrakesUptoRow.holds Try.pinned (OpenSpec.upto towBrakesSpec)

/-- 'thalweglaw03.TowTruths', WHERE WHAT IT READS IS OF BULK AT MOST 1048576: true; the input reads as it did. -/
def towTruthsUptoRow : OpenClaim := { program := "ytmicjleiheoieaa", sum := "543d56ccc83bbb9fef5846c600ea5a4acd571de33d30f32bd17621611cb2a04e", func := "thalweg/thalweglaw03.TowTruths", spec := "towTruths", unfollowed := true, recurses := true, plainKeys := false, apart := false, narrowed := true }
def TowTruthsUptoSaid : Prop := towTruthsUptoRow.holds Try.pinned (OpenSpec.upto towTruthsSpec)

/-- 'thalweglaw03.TowOrders', WHERE WHAT IT READS IS OF BULK AT MOST 1048576: true; the input reads as it did. -/
def towOrdersUptoRow : OpenClaim := { program := "ytmicjleiheoieaa", sum := "543d56ccc83bbb9fef5846c600ea5a4acd571de33d30f32bd17621611cb2a04e", func := "thalweg/thalweglaw03.TowOrders", spec := "towOrders", unfollowed := true, recurses := true, plainKeys := false, apart := false, narrowed := true }
def TowOrdersUptoSaid : Prop := towOrdersUptoRow.holds Try.pinned (OpenSpec.upto towOrdersSpec)

/-- 'thalweglaw03.TowBest', WHERE WHAT IT READS IS OF BULK AT MOST 1048576: true; the input reads as it did. -/
def towBestUptoRow : OpenClaim := { program := "ytmicjleiheoieaa", sum := "543d56ccc83bbb9fef5846c600ea5a4acd571de33d30f32bd17621611cb2a04e", func := "thalweg/thalweglaw03.TowBest", spec := "towBest", unfollowed := true, recurses := true, plainKeys := false, apart := false, narrowed := true }
def TowBestUptoSaid : Prop := towBestUptoRow.holds Try.pinned (OpenSpec.upto towBestSpec)

/-- 'thalweglaw03.TowHeld', WHERE WHAT IT READS IS OF BULK AT MOST 1048576: true; the input reads as it did. -/
def towHeldUptoRow : OpenClaim := { program := "ytmicjleiheoieaa", sum := "543d56ccc83bbb9fef5846c600ea5a4acd571de33d30f32bd17621611cb2a04e", func := "thalweg/thalweglaw03.TowHeld", spec := "towHeld", unfollowed := true, recurses := true, plainKeys := false, apart := false, narrowed := true }
def TowHeldUptoSaid : Prop := towHeldUptoRow.holds Try.pinned (OpenSpec.upto towHeldSpec)

end Rows
end Go.Proofs.Ytmicjleiheoieaa
