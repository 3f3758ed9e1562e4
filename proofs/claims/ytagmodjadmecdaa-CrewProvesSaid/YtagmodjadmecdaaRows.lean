/-
  No cell of these rows narrows 'for every input' (looked for: loops, veiled, ifaces, maps, wideKeys, modest, calm, conditions, laid).
  DERIVED. THE GIVEN ROWS OF THIS SEAT. 5 by the template 'for every input the law returns true; each argument reads behind the call as it read before'; 0 by the template 'total and deterministic' (their statements: YtagmodjadmecdaaTotals.lean).
  GIVEN WITH THE SEED: the statements are not yours to turn. If you find one false, say at which input.
  Laid BY PROGRAM, IN A SANDBOX (cutbox-rows.mjs): the forced cells as the released guide's own fill.sh prints them over the translation 7babc8f1125b4180… (all of the seat's roots in one cut). By AI agents, Wed Nov 11 2026. No macro, syntax, notation, axiom, sorry.
-/
import Derived.Test.YtagmodjadmecdaaChecked
import GoSem.Claim
import GoSem.ClaimJoined
import GoSem.ClaimMapViews
import Derived.JoinedTies
import Derived.KernelRfl
namespace Go.Proofs.Ytagmodjadmecdaa
/- THE CELL 'sum', in the pinned program and in every row, IS THE sha256 OF THE DUMP (.gsa) THAT YtagmodjadmecdaaProg.lean LOADS. Nothing in Lean hashes anything: it is a label: what it is worth is what the hold of that sum in a sandbox is worth. -/
noncomputable def Try.pinned : Pinned := { name := "ytagmodjadmecdaa", sum := "7babc8f1125b4180cef90d1c242a5be04137b7316f22e2d8b4b6703ee6d0df02", checked := Try.checked }
namespace Rows
def none {H : Type} : Left H := { results := [], args := [] }

/-- 'thalweglaw09.CrewTruths': WHATEVER THE INPUT: true; the input reads as it did. -/
def crewTruthsSpec : ChangeSpec := { name := "crewTruths", fn := fun _ => fun
  | [d1, d2] => { results := [.lit (.bool true)], args := [d1, d2] }
  | _ => none }
def crewTruthsRow : OpenClaim := { program := "ytagmodjadmecdaa", sum := "7babc8f1125b4180cef90d1c242a5be04137b7316f22e2d8b4b6703ee6d0df02", func := "thalweg/thalweglaw09.CrewTruths", spec := "crewTruths", inPlace := ["slices.overlaps[thalweg/crew.span]"], unfollowed := true, recurses := true, apart := false }
def CrewTruthsSaid : Prop := crewTruthsRow.holds Try.pinned (OpenSpec.ofChange crewTruthsSpec)

/-- ITS FALSE NEIGHBOUR: 'it returns false'. Refute it at one input. -/
def crewTruthsWrong : ChangeSpec := { name := "crewTruths", fn := fun _ => fun
  | [d1, d2] => { results := [.lit (.bool false)], args := [d1, d2] }
  | _ => none }
def CrewTruthsWrongFalsely : Prop := crewTruthsRow.holds Try.pinned (OpenSpec.ofChange crewTruthsWrong)

/-- 'thalweglaw09.CrewEarliest': WHATEVER THE INPUT: true; the input reads as it did. -/
def crewEarliestSpec : ChangeSpec := { name := "crewEarliest", fn := fun _ => fun
  | [d1, d2] => { results := [.lit (.bool true)], args := [d1, d2] }
  | _ => none }
def crewEarliestRow : OpenClaim := { program := "ytagmodjadmecdaa", sum := "7babc8f1125b4180cef90d1c242a5be04137b7316f22e2d8b4b6703ee6d0df02", func := "thalweg/thalweglaw09.CrewEarliest", spec := "crewEarliest", inPlace := ["slices.overlaps[thalweg/crew.span]"], unfollowed := true, recurses := true, apart := false }
def CrewEarliestSaid : Prop := crewEarliestRow.holds Try.pinned (OpenSpec.ofChange crewEarliestSpec)

/-- ITS FALSE NEIGHBOUR: 'it returns false'. Refute it at one input. -/
def crewEarliestWrong : ChangeSpec := { name := "crewEarliest", fn := fun _ => fun
  | [d1, d2] => { results := [.lit (.bool false)], args := [d1, d2] }
  | _ => none }
def CrewEarliestWrongFalsely : Prop := crewEarliestRow.holds Try.pinned (OpenSpec.ofChange crewEarliestWrong)

/-- 'thalweglaw09.CrewMilder': WHATEVER THE INPUT: true; the input reads as it did. -/
def crewMilderSpec : ChangeSpec := { name := "crewMilder", fn := fun _ => fun
  | [d1, d2, d3] => { results := [.lit (.bool true)], args := [d1, d2, d3] }
  | _ => none }
def crewMilderRow : OpenClaim := { program := "ytagmodjadmecdaa", sum := "7babc8f1125b4180cef90d1c242a5be04137b7316f22e2d8b4b6703ee6d0df02", func := "thalweg/thalweglaw09.CrewMilder", spec := "crewMilder", inPlace := ["slices.overlaps[thalweg/crew.span]"], unfollowed := true, recurses := true, apart := false }
def CrewMilderSaid : Prop := crewMilderRow.holds Try.pinned (OpenSpec.ofChange crewMilderSpec)

/-- ITS FALSE NEIGHBOUR: 'it returns false'. Refute it at one input. -/
def crewMilderWrong : ChangeSpec := { name := "crewMilder", fn := fun _ => fun
  | [d1, d2, d3] => { results := [.lit (.bool false)], args := [d1, d2, d3] }
  | _ => none }
def CrewMilderWrongFalsely : Prop := crewMilderRow.holds Try.pinned (OpenSpec.ofChange crewMilderWrong)

/-- 'thalweglaw09.CrewSafe': WHATEVER THE INPUT: true; the input reads as it did. -/
def crewSafeSpec : ChangeSpec := { name := "crewSafe", fn := fun _ => fun
  | [d1, d2] => { results := [.lit (.bool true)], args := [d1, d2] }
  | _ => none }
def crewSafeRow : OpenClaim := { program := "ytagmodjadmecdaa", sum := "7babc8f1125b4180cef90d1c242a5be04137b7316f22e2d8b4b6703ee6d0df02", func := "thalweg/thalweglaw09.CrewSafe", spec := "crewSafe", inPlace := ["slices.overlaps[thalweg/crew.span]"], unfollowed := true, recurses := true, apart := false }
def CrewSafeSaid : Prop := crewSafeRow.holds Try.pinned (OpenSpec.ofChange crewSafeSpec)

/-- ITS FALSE NEIGHBOUR: 'it returns false'. Refute it at one input. -/
def crewSafeWrong : ChangeSpec := { name := "crewSafe", fn := fun _ => fun
  | [d1, d2] => { results := [.lit (.bool false)], args := [d1, d2] }
  | _ => none }
def CrewSafeWrongFalsely : Prop := crewSafeRow.holds Try.pinned (OpenSpec.ofChange crewSafeWrong)

/-- 'thalweglaw09.CrewProves': WHATEVER THE INPUT: true; the input reads as it did. -/
def crewProvesSpec : ChangeSpec := { name := "crewProves", fn := fun _ => fun
  | [d1, d2, d3] => { results := [.lit (.bool true)], args := [d1, d2, d3] }
  | _ => none }
def crewProvesRow : OpenClaim := { program := "ytagmodjadmecdaa", sum := "7babc8f1125b4180cef90d1c242a5be04137b7316f22e2d8b4b6703ee6d0df02", func := "thalweg/thalweglaw09.CrewProves", spec := "crewProves", inPlace := ["slices.overlaps[thalweg/crew.span]"], unfollowed := true, recurses := true, apart := false }
def CrewProvesSaid : Prop := crewProvesRow.holds Try.pinned (OpenSpec.ofChange crewProvesSpec)

/-- ITS FALSE NEIGHBOUR: 'it returns false'. Refute it at one input. -/
def crewProvesWrong : ChangeSpec := { name := "crewProves", fn := fun _ => fun
  | [d1, d2, d3] => { results := [.lit (.bool false)], args := [d1, d2, d3] }
  | _ => none }
def CrewProvesWrongFalsely : Prop := crewProvesRow.holds Try.pinned (OpenSpec.ofChange crewProvesWrong)

/- THE SECOND FORM. 'bulk': how many values and letters a reading holds, each counted each time it is reached (what is shared counts as often as it is met; a slice's spare places count too). A statement '..UptoSaid' is the law's where the arguments, and the package variables that the reading takes, are together of bulk at most 1048576: NARROWER than '..Said'. Prove '..Said' where nothing that the law and all that it calls make is longer than what came in: it says more and counts as full. Else prove '..UptoSaid'. A law counts once. -/
mutual
def uptoBulk {H : Type} : DataW H → Nat
  | .lit (.string bytes) => bytes.length + 1
  | .lit _ => 1
  | .nil => 1
  | .ptr d => uptoBulk d + 1
  | .slice elems spare => uptoBulkAll elems + uptoBulkAll spare + 1
  | .agg parts => uptoBulkAll parts + 1
  | .iface _ d => uptoBulk d + 1
  | .map entries => uptoBulkEntries entries + 1
  | .held _ => 1
def uptoBulkAll {H : Type} : List (DataW H) → Nat
  | [] => 0
  | d :: r => uptoBulk d + uptoBulkAll r
def uptoBulkEntries {H : Type} : List (Lit × DataW H) → Nat
  | [] => 0
  | x :: r => uptoBulkEntry x + uptoBulkEntries r
def uptoBulkEntry {H : Type} : Lit × DataW H → Nat
  | (.string bytes, d) => bytes.length + uptoBulk d + 1
  | (_, d) => uptoBulk d + 1
 end
def uptoSmall : (H : Type) → List (DataW H) → Bool := fun _ ds => decide (uptoBulkAll ds ≤ 1048576)
def OpenSpec.upto (s : _root_.Go.ChangeSpec) : _root_.Go.OpenSpec := { _root_.Go.OpenSpec.ofChange s with cond := some uptoSmall }

/-- 'thalweglaw09.CrewTruths', WHERE WHAT IT READS IS OF BULK AT MOST 1048576: true; the input reads as it did. -/
def crewTruthsUptoRow : OpenClaim := { program := "ytagmodjadmecdaa", sum := "7babc8f1125b4180cef90d1c242a5be04137b7316f22e2d8b4b6703ee6d0df02", func := "thalweg/thalweglaw09.CrewTruths", spec := "crewTruths", inPlace := ["slices.overlaps[thalweg/crew.span]"], unfollowed := true, recurses := true, apart := false, narrowed := true }
def CrewTruthsUptoSaid : Prop := crewTruthsUptoRow.holds Try.pinned (OpenSpec.upto crewTruthsSpec)

/-- 'thalweglaw09.CrewEarliest', WHERE WHAT IT READS IS OF BULK AT MOST 1048576: true; the input reads as it did. -/
def crewEarliestUptoRow : OpenClaim := { program := "ytagmodjadmecdaa", sum := "7babc8f1125b4180cef90d1c242a5be04137b7316f22e2d8b4b6703ee6d0df02", func := "thalweg/thalweglaw09.CrewEarliest", spec := "crewEarliest", inPlace := ["slices.overlaps[thalweg/crew.span]"], unfollowed := true, recurses := true, apart := false, narrowed := true }
def CrewEarliestUptoSaid : Prop := crewEarliestUptoRow.holds Try.pinned (OpenSpec.upto crewEarliestSpec)

/-- 'thalweglaw09.CrewMilder', WHERE WHAT IT READS IS OF BULK AT MOST 1048576: true; the input reads as it did. -/
def crewMilderUptoRow : OpenClaim := { program := "ytagmodjadmecdaa", sum := "7babc8f1125b4180cef90d1c242a5be04137b7316f22e2d8b4b6703ee6d0df02", func := "thalweg/thalweglaw09.CrewMilder", spec := "crewMilder", inPlace := ["slices.overlaps[thalweg/crew.span]"], unfollowed := true, recurses := true, apart := false, narrowed := true }
def CrewMilderUptoSaid : Prop := crewMilderUptoRow.holds Try.pinned (OpenSpec.upto crewMilderSpec)

/-- 'thalweglaw09.CrewSafe', WHERE WHAT IT READS IS OF BULK AT MOST 1048576: true; the input reads as it did. -/
def crewSafeUptoRow : OpenClaim := { program := "ytagmodjadmecdaa", sum := "7babc8f1125b4180cef90d1c242a5be04137b7316f22e2d8b4b6703ee6d0df02", func := "thalweg/thalweglaw09.CrewSafe", spec := "crewSafe", inPlace := ["slices.overlaps[thalweg/crew.span]"], unfollowed := true, recurses := true, apart := false, narrowed := true }
def CrewSafeUptoSaid : Prop := crewSafeUptoRow.holds Try.pinned (OpenSpec.upto crewSafeSpec)

/-- 'thalweglaw09.CrewProves', WHERE WHAT IT READS IS OF BULK AT MOST 1048576: true; the input reads as it did. -/
def crewProvesUptoRow : OpenClaim := { program := "ytagmodjadmecdaa", sum := "7babc8f1125b4180cef90d1c242a5be04137b7316f22e2d8b4b6703ee6d0df02", func := "thalweg/thalweglaw09.CrewProves", spec := "crewProves", inPlace := ["slices.overlaps[thalweg/crew.span]"], unfollowed := true, recurses := true, apart := false, narrowed := true }
def CrewProvesUptoSaid : Prop := crewProvesUptoRow.holds Try.pinned (OpenSpec.upto crewProvesSpec)

end Rows
end Go.Proofs.Ytagmodjadmecdaa
