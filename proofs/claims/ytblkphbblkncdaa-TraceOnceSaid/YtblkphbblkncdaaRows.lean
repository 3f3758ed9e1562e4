/-
  No cell of these rows narrows 'for every input' (looked for: loops, veiled, ifaces, maps, wideKeys, modest, calm, conditions, laid).
  DERIVED. THE GIVEN ROWS OF THIS SEAT. 7 by the template 'for every input the law returns true; each argument reads behind the call as it read before'; 0 by the template 'total and deterministic' (their statements: YtblkphbblkncdaaTotals.lean).
  GIVEN WITH THE SEED: the statements are not yours to turn. If you find one false, say at which input.
  Laid BY PROGRAM, IN A SANDBOX (cutbox-rows.mjs): the forced cells as the released guide's own fill.sh prints them over the translation 232b33c6df74a3d9… (all of the seat's roots in one cut). By AI agents, Wed Nov 11 2026. No macro, syntax, notation, axiom, sorry.
-/
import Derived.Test.YtblkphbblkncdaaChecked
import GoSem.Claim
import GoSem.ClaimJoined
import GoSem.ClaimMapViews
import Derived.JoinedTies
import Derived.KernelRfl
namespace Go.Proofs.Ytblkphbblkncdaa
/- THE CELL 'sum', in the pinned program and in every row, IS THE sha256 OF THE DUMP (.gsa) THAT YtblkphbblkncdaaProg.lean LOADS. Nothing in Lean hashes anything: it is a label: what it is worth is what the hold of that sum in a sandbox is worth. -/
noncomputable def Try.pinned : Pinned := { name := "ytblkphbblkncdaa", sum := "232b33c6df74a3d9c8ae5867b6768f3e89b940756bd62430199c16768b9f5061", checked := Try.checked }
namespace Rows
def none {H : Type} : Left H := { results := [], args := [] }

/-- 'thalweglaw11.TraceReplays': WHATEVER THE INPUT: true; the input reads as it did. -/
def traceReplaysSpec : ChangeSpec := { name := "traceReplays", fn := fun _ => fun
  | [d1, d2, d3] => { results := [.lit (.bool true)], args := [d1, d2, d3] }
  | _ => none }
def traceReplaysRow : OpenClaim := { program := "ytblkphbblkncdaa", sum := "232b33c6df74a3d9c8ae5867b6768f3e89b940756bd62430199c16768b9f5061", func := "thalweg/thalweglaw11.TraceReplays", spec := "traceReplays", unfollowed := true, recurses := true, apart := false }
def TraceReplaysSaid : Prop := traceReplaysRow.holds Try.pinned (OpenSpec.ofChange traceReplaysSpec)

/-- ITS FALSE NEIGHBOUR: 'it returns false'. Refute it at one input. -/
def traceReplaysWrong : ChangeSpec := { name := "traceReplays", fn := fun _ => fun
  | [d1, d2, d3] => { results := [.lit (.bool false)], args := [d1, d2, d3] }
  | _ => none }
def TraceReplaysWrongFalsely : Prop := traceReplaysRow.holds Try.pinned (OpenSpec.ofChange traceReplaysWrong)

/-- 'thalweglaw11.TraceWheres': WHATEVER THE INPUT: true; the input reads as it did. -/
def traceWheresSpec : ChangeSpec := { name := "traceWheres", fn := fun _ => fun
  | [d1, d2, d3] => { results := [.lit (.bool true)], args := [d1, d2, d3] }
  | _ => none }
def traceWheresRow : OpenClaim := { program := "ytblkphbblkncdaa", sum := "232b33c6df74a3d9c8ae5867b6768f3e89b940756bd62430199c16768b9f5061", func := "thalweg/thalweglaw11.TraceWheres", spec := "traceWheres", unfollowed := true, recurses := true, apart := false }
def TraceWheresSaid : Prop := traceWheresRow.holds Try.pinned (OpenSpec.ofChange traceWheresSpec)

/-- ITS FALSE NEIGHBOUR: 'it returns false'. Refute it at one input. -/
def traceWheresWrong : ChangeSpec := { name := "traceWheres", fn := fun _ => fun
  | [d1, d2, d3] => { results := [.lit (.bool false)], args := [d1, d2, d3] }
  | _ => none }
def TraceWheresWrongFalsely : Prop := traceWheresRow.holds Try.pinned (OpenSpec.ofChange traceWheresWrong)

/-- 'thalweglaw11.TraceLosses': WHATEVER THE INPUT: true; the input reads as it did. -/
def traceLossesSpec : ChangeSpec := { name := "traceLosses", fn := fun _ => fun
  | [d] => { results := [.lit (.bool true)], args := [d] }
  | _ => none }
def traceLossesRow : OpenClaim := { program := "ytblkphbblkncdaa", sum := "232b33c6df74a3d9c8ae5867b6768f3e89b940756bd62430199c16768b9f5061", func := "thalweg/thalweglaw11.TraceLosses", spec := "traceLosses", unfollowed := true, recurses := true, apart := false }
def TraceLossesSaid : Prop := traceLossesRow.holds Try.pinned (OpenSpec.ofChange traceLossesSpec)

/-- ITS FALSE NEIGHBOUR: 'it returns false'. Refute it at one input. -/
def traceLossesWrong : ChangeSpec := { name := "traceLosses", fn := fun _ => fun
  | [d] => { results := [.lit (.bool false)], args := [d] }
  | _ => none }
def TraceLossesWrongFalsely : Prop := traceLossesRow.holds Try.pinned (OpenSpec.ofChange traceLossesWrong)

/-- 'thalweglaw11.TraceOnce': WHATEVER THE INPUT: true; the input reads as it did. -/
def traceOnceSpec : ChangeSpec := { name := "traceOnce", fn := fun _ => fun
  | [d] => { results := [.lit (.bool true)], args := [d] }
  | _ => none }
def traceOnceRow : OpenClaim := { program := "ytblkphbblkncdaa", sum := "232b33c6df74a3d9c8ae5867b6768f3e89b940756bd62430199c16768b9f5061", func := "thalweg/thalweglaw11.TraceOnce", spec := "traceOnce", unfollowed := true, recurses := true, apart := false }
def TraceOnceSaid : Prop := traceOnceRow.holds Try.pinned (OpenSpec.ofChange traceOnceSpec)

/-- ITS FALSE NEIGHBOUR: 'it returns false'. Refute it at one input. -/
def traceOnceWrong : ChangeSpec := { name := "traceOnce", fn := fun _ => fun
  | [d] => { results := [.lit (.bool false)], args := [d] }
  | _ => none }
def TraceOnceWrongFalsely : Prop := traceOnceRow.holds Try.pinned (OpenSpec.ofChange traceOnceWrong)

/-- 'thalweglaw11.TracePaths': WHATEVER THE INPUT: true; the input reads as it did. -/
def tracePathsSpec : ChangeSpec := { name := "tracePaths", fn := fun _ => fun
  | [d1, d2] => { results := [.lit (.bool true)], args := [d1, d2] }
  | _ => none }
def tracePathsRow : OpenClaim := { program := "ytblkphbblkncdaa", sum := "232b33c6df74a3d9c8ae5867b6768f3e89b940756bd62430199c16768b9f5061", func := "thalweg/thalweglaw11.TracePaths", spec := "tracePaths", unfollowed := true, recurses := true, apart := false }
def TracePathsSaid : Prop := tracePathsRow.holds Try.pinned (OpenSpec.ofChange tracePathsSpec)

/-- ITS FALSE NEIGHBOUR: 'it returns false'. Refute it at one input. -/
def tracePathsWrong : ChangeSpec := { name := "tracePaths", fn := fun _ => fun
  | [d1, d2] => { results := [.lit (.bool false)], args := [d1, d2] }
  | _ => none }
def TracePathsWrongFalsely : Prop := tracePathsRow.holds Try.pinned (OpenSpec.ofChange tracePathsWrong)

/-- 'thalweglaw11.TraceBack': WHATEVER THE INPUT: true; the input reads as it did. -/
def traceBackSpec : ChangeSpec := { name := "traceBack", fn := fun _ => fun
  | [d1, d2] => { results := [.lit (.bool true)], args := [d1, d2] }
  | _ => none }
def traceBackRow : OpenClaim := { program := "ytblkphbblkncdaa", sum := "232b33c6df74a3d9c8ae5867b6768f3e89b940756bd62430199c16768b9f5061", func := "thalweg/thalweglaw11.TraceBack", spec := "traceBack", unfollowed := true, recurses := true, apart := false }
def TraceBackSaid : Prop := traceBackRow.holds Try.pinned (OpenSpec.ofChange traceBackSpec)

/-- ITS FALSE NEIGHBOUR: 'it returns false'. Refute it at one input. -/
def traceBackWrong : ChangeSpec := { name := "traceBack", fn := fun _ => fun
  | [d1, d2] => { results := [.lit (.bool false)], args := [d1, d2] }
  | _ => none }
def TraceBackWrongFalsely : Prop := traceBackRow.holds Try.pinned (OpenSpec.ofChange traceBackWrong)

/-- 'thalweglaw11.TraceTruths': WHATEVER THE INPUT: true; the input reads as it did. -/
def traceTruthsSpec : ChangeSpec := { name := "traceTruths", fn := fun _ => fun
  | [d] => { results := [.lit (.bool true)], args := [d] }
  | _ => none }
def traceTruthsRow : OpenClaim := { program := "ytblkphbblkncdaa", sum := "232b33c6df74a3d9c8ae5867b6768f3e89b940756bd62430199c16768b9f5061", func := "thalweg/thalweglaw11.TraceTruths", spec := "traceTruths", unfollowed := true, recurses := true, apart := false }
def TraceTruthsSaid : Prop := traceTruthsRow.holds Try.pinned (OpenSpec.ofChange traceTruthsSpec)

/-- ITS FALSE NEIGHBOUR: 'it returns false'. Refute it at one input. -/
def traceTruthsWrong : ChangeSpec := { name := "traceTruths", fn := fun _ => fun
  | [d] => { results := [.lit (.bool false)], args := [d] }
  | _ => none }
def TraceTruthsWrongFalsely : Prop := traceTruthsRow.holds Try.pinned (OpenSpec.ofChange traceTruthsWrong)

/- THE SECOND FORM. 'bulk': how many values and letters a reading holds, each counted each time it is reached (what is shared counts as often as it is met; a slice's spare places count too). A statement '..UptoSaid' is the law's where the arguments, and the package variables that the reading takes, are together of bulk at most 1048576: NARROWER than '..Said'. Prove '..Said' where nothing that the law and all that it calls make is longer than what came in: it says more and counts as full. Else prove '..UptoSaid'. A law counts once. -/
mutual
def uptoBulk {H : Type} : DataW H → Nat
  | .lit (.string bytes) => bytes.length + 1
  | .lit _ => 1
  | .nil => 1
  | .ptr d => uptoBulk d + 1
  | .slice elems spare => uptoBulkAll elems + uptoBulkAll spare + 1
  | .agg parts => uptoBulkAll parts + 1
  | .iface _ d => uptoBulk d + 1
  | .map entries => uptoBulkEntries entries + 1
  | .held _ => 1
def uptoBulkAll {H : Type} : List (DataW H) → Nat
  | [] => 0
  | d :: r => uptoBulk d + uptoBulkAll r
def uptoBulkEntries {H : Type} : List (Lit × DataW H) → Nat
  | [] => 0
  | x :: r => uptoBulkEntry x + uptoBulkEntries r
def uptoBulkEntry {H : Type} : Lit × DataW H → Nat
  | (.string bytes, d) => bytes.length + uptoBulk d + 1
  | (_, d) => uptoBulk d + 1
 end
def uptoSmall : (H : Type) → List (DataW H) → Bool := fun _ ds => decide (uptoBulkAll ds ≤ 1048576)
def OpenSpec.upto (s : _root_.Go.ChangeSpec) : _root_.Go.OpenSpec := { _root_.Go.OpenSpec.ofChange s with cond := some uptoSmall }

/-- 'thalweglaw11.TraceReplays', WHERE WHAT IT READS IS OF BULK AT MOST 1048576: true; the input reads as it did. -/
def traceReplaysUptoRow : OpenClaim := { program := "ytblkphbblkncdaa", sum := "232b33c6df74a3d9c8ae5867b6768f3e89b940756bd62430199c16768b9f5061", func := "thalweg/thalweglaw11.TraceReplays", spec := "traceReplays", unfollowed := true, recurses := true, apart := false, narrowed := true }
def TraceReplaysUptoSaid : Prop := traceReplaysUptoRow.holds Try.pinned (OpenSpec.upto traceReplaysSpec)

/-- 'thalweglaw11.TraceWheres', WHERE WHAT IT READS IS OF BULK AT MOST 1048576: true; the input reads as it did. -/
def traceWheresUptoRow : OpenClaim := { program := "ytblkphbblkncdaa", sum := "232b33c6df74a3d9c8ae5867b6768f3e89b940756bd62430199c16768b9f5061", func := "thalweg/thalweglaw11.TraceWheres", spec := "traceWheres", unfollowed := true, recurses := true, apart := false, narrowed := true }
def TraceWheresUptoSaid : Prop := traceWheresUptoRow.holds Try.pinned (OpenSpec.upto traceWheresSpec)

/-- 'thalweglaw11.TraceLosses', WHERE WHAT IT READS IS OF BULK AT MOST 1048576: true; the input reads as it did. -/
def traceLossesUptoRow : OpenClaim := { program := "ytblkphbblkncdaa", sum := "232b33c6df74a3d9c8ae5867b6768f3e89b940756bd62430199c16768b9f5061", func := "thalweg/thalweglaw11.TraceLosses", spec := "traceLosses", unfollowed := true, recurses := true, apart := false, narrowed := true }
def TraceLossesUptoSaid : Prop := traceLossesUptoRow.holds Try.pinned (OpenSpec.upto traceLossesSpec)

/-- 'thalweglaw11.TraceOnce', WHERE WHAT IT READS IS OF BULK AT MOST 1048576: true; the input reads as it did. -/
def traceOnceUptoRow : OpenClaim := { program := "ytblkphbblkncdaa", sum := "232b33c6df74a3d9c8ae5867b6768f3e89b940756bd62430199c16768b9f5061", func := "thalweg/thalweglaw11.TraceOnce", spec := "traceOnce", unfollowed := true, recurses := true, apart := false, narrowed := true }
def TraceOnceUptoSaid : Prop := traceOnceUptoRow.holds Try.pinned (OpenSpec.upto traceOnceSpec)

/-- 'thalweglaw11.TracePaths', WHERE WHAT IT READS IS OF BULK AT MOST 1048576: true; the input reads as it did. -/
def tracePathsUptoRow : OpenClaim := { program := "ytblkphbblkncdaa", sum := "232b33c6df74a3d9c8ae5867b6768f3e89b940756bd62430199c16768b9f5061", func := "thalweg/thalweglaw11.TracePaths", spec := "tracePaths", unfollowed := true, recurses := true, apart := false, narrowed := true }
def TracePathsUptoSaid : Prop := tracePathsUptoRow.holds Try.pinned (OpenSpec.upto tracePathsSpec)

/-- 'thalweglaw11.TraceBack', WHERE WHAT IT READS IS OF BULK AT MOST 1048576: true; the input reads as it did. -/
def traceBackUptoRow : OpenClaim := { program := "ytblkphbblkncdaa", sum := "232b33c6df74a3d9c8ae5867b6768f3e89b940756bd62430199c16768b9f5061", func := "thalweg/thalweglaw11.TraceBack", spec := "traceBack", unfollowed := true, recurses := true, apart := false, narrowed := true }
def TraceBackUptoSaid : Prop := traceBackUptoRow.holds Try.pinned (OpenSpec.upto traceBackSpec)

/-- 'thalweglaw11.TraceTruths', WHERE WHAT IT READS IS OF BULK AT MOST 1048576: true; the input reads as it did. -/
def traceTruthsUptoRow : OpenClaim := { program := "ytblkphbblkncdaa", sum := "232b33c6df74a3d9c8ae5867b6768f3e89b940756bd62430199c16768b9f5061", func := "thalweg/thalweglaw11.TraceTruths", spec := "traceTruths", unfollowed := true, recurses := true, apart := false, narrowed := true }
def TraceTruthsUptoSaid : Prop := traceTruthsUptoRow.holds Try.pinned (OpenSpec.upto traceTruthsSpec)

end Rows
end Go.Proofs.Ytblkphbblkncdaa
