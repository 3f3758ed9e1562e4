/-
  No cell of these rows narrows 'for every input' (looked for: loops, veiled, ifaces, maps, wideKeys, modest, calm, conditions, laid).
  DERIVED. THE GIVEN ROWS OF THIS SEAT. 4 by the template 'for every input the law returns true; each argument reads behind the call as it read before'; 0 by the template 'total and deterministic' (their statements: YtclinbbghnebaaaGreatTotals.lean).
  GIVEN WITH THE SEED: the statements are not yours to turn. If you find one false, say at which input.
  Laid BY PROGRAM, IN A SANDBOX (cutbox-rows.mjs): the forced cells as the released guide's own fill.sh prints them over the translation e262eb9fa67d2b63… (all of the seat's roots in one cut). By AI agents, Wed Nov 11 2026. No macro, syntax, notation, axiom, sorry.
-/
import Derived.Test.YtclinbbghnebaaaGreatChecked
import GoSem.Claim
import GoSem.ClaimJoined
import GoSem.ClaimMapViews
import Derived.JoinedTies
import Derived.KernelRfl
namespace Go.Proofs.YtclinbbghnebaaaGreat
/- THE CELL 'sum', in the pinned program and in every row, IS THE sha256 OF THE DUMP (.gsa) THAT YtclinbbghnebaaaGreatProg.lean LOADS. Nothing in Lean hashes anything: it is a label: what it is worth is what the hold of that sum in a sandbox is worth. -/
noncomputable def Tryz.pinned : Pinned := { name := "ytclinbbghnebaaagreat", sum := "e262eb9fa67d2b63494f5a767b2323ea386c1bcbe27a5527f2763dfa91120977", checked := Tryz.checked }
namespace Rows
def none {H : Type} : Left H := { results := [], args := [] }

/-- 'thalwegtop.TopLateNotice': WHATEVER THE INPUT: true; the input reads as it did. -/
def topLateNoticeSpec : ChangeSpec := { name := "topLateNotice", fn := fun _ => fun
  | [d1, d2, d3] => { results := [.lit (.bool true)], args := [d1, d2, d3] }
  | _ => none }
def topLateNoticeRow : OpenClaim := { program := "ytclinbbghnebaaagreat", sum := "e262eb9fa67d2b63494f5a767b2323ea386c1bcbe27a5527f2763dfa91120977", func := "thalweg/thalwegtop.TopLateNotice", spec := "topLateNotice", unfollowed := true, recurses := true, plainKeys := false, apart := false }
def TopLateNoticeSaid : Prop := topLateNoticeRow.holds Tryz.pinned (OpenSpec.ofChange topLateNoticeSpec)

/-- ITS FALSE NEIGHBOUR: 'it returns false'. Refute it at one input. -/
def topLateNoticeWrong : ChangeSpec := { name := "topLateNotice", fn := fun _ => fun
  | [d1, d2, d3] => { results := [.lit (.bool false)], args := [d1, d2, d3] }
  | _ => none }
def TopLateNoticeWrongFalsely : Prop := topLateNoticeRow.holds Tryz.pinned (OpenSpec.ofChange topLateNoticeWrong)

/-- 'thalwegtop.TopOfferedVoyage': WHATEVER THE INPUT: true; the input reads as it did. -/
def topOfferedVoyageSpec : ChangeSpec := { name := "topOfferedVoyage", fn := fun _ => fun
  | [d1, d2] => { results := [.lit (.bool true)], args := [d1, d2] }
  | _ => none }
def topOfferedVoyageRow : OpenClaim := { program := "ytclinbbghnebaaagreat", sum := "e262eb9fa67d2b63494f5a767b2323ea386c1bcbe27a5527f2763dfa91120977", func := "thalweg/thalwegtop.TopOfferedVoyage", spec := "topOfferedVoyage", unfollowed := true, recurses := true, plainKeys := false, apart := false }
def TopOfferedVoyageSaid : Prop := topOfferedVoyageRow.holds Tryz.pinned (OpenSpec.ofChange topOfferedVoyageSpec)

/-- ITS FALSE NEIGHBOUR: 'it returns false'. Refute it at one input. -/
def topOfferedVoyageWrong : ChangeSpec := { name := "topOfferedVoyage", fn := fun _ => fun
  | [d1, d2] => { results := [.lit (.bool false)], args := [d1, d2] }
  | _ => none }
def TopOfferedVoyageWrongFalsely : Prop := topOfferedVoyageRow.holds Tryz.pinned (OpenSpec.ofChange topOfferedVoyageWrong)

/-- 'thalwegtop.TopCrewedVoyage': WHATEVER THE INPUT: true; the input reads as it did. -/
def topCrewedVoyageSpec : ChangeSpec := { name := "topCrewedVoyage", fn := fun _ => fun
  | [d1, d2, d3] => { results := [.lit (.bool true)], args := [d1, d2, d3] }
  | _ => none }
def topCrewedVoyageRow : OpenClaim := { program := "ytclinbbghnebaaagreat", sum := "e262eb9fa67d2b63494f5a767b2323ea386c1bcbe27a5527f2763dfa91120977", func := "thalweg/thalwegtop.TopCrewedVoyage", spec := "topCrewedVoyage", inPlace := ["slices.overlaps[thalweg/crew.span]"], unfollowed := true, recurses := true, plainKeys := false, apart := false }
def TopCrewedVoyageSaid : Prop := topCrewedVoyageRow.holds Tryz.pinned (OpenSpec.ofChange topCrewedVoyageSpec)

/-- ITS FALSE NEIGHBOUR: 'it returns false'. Refute it at one input. -/
def topCrewedVoyageWrong : ChangeSpec := { name := "topCrewedVoyage", fn := fun _ => fun
  | [d1, d2, d3] => { results := [.lit (.bool false)], args := [d1, d2, d3] }
  | _ => none }
def TopCrewedVoyageWrongFalsely : Prop := topCrewedVoyageRow.holds Tryz.pinned (OpenSpec.ofChange topCrewedVoyageWrong)

/-- 'thalwegtop.TopOfferedCrew': WHATEVER THE INPUT: true; the input reads as it did. -/
def topOfferedCrewSpec : ChangeSpec := { name := "topOfferedCrew", fn := fun _ => fun
  | [d1, d2] => { results := [.lit (.bool true)], args := [d1, d2] }
  | _ => none }
def topOfferedCrewRow : OpenClaim := { program := "ytclinbbghnebaaagreat", sum := "e262eb9fa67d2b63494f5a767b2323ea386c1bcbe27a5527f2763dfa91120977", func := "thalweg/thalwegtop.TopOfferedCrew", spec := "topOfferedCrew", inPlace := ["slices.overlaps[thalweg/crew.span]"], unfollowed := true, recurses := true, plainKeys := false, apart := false }
def TopOfferedCrewSaid : Prop := topOfferedCrewRow.holds Tryz.pinned (OpenSpec.ofChange topOfferedCrewSpec)

/-- ITS FALSE NEIGHBOUR: 'it returns false'. Refute it at one input. -/
def topOfferedCrewWrong : ChangeSpec := { name := "topOfferedCrew", fn := fun _ => fun
  | [d1, d2] => { results := [.lit (.bool false)], args := [d1, d2] }
  | _ => none }
def TopOfferedCrewWrongFalsely : Prop := topOfferedCrewRow.holds Tryz.pinned (OpenSpec.ofChange topOfferedCrewWrong)

/- THE SECOND FORM. 'bulk': how many values and letters a reading holds, each counted each time it is reached (what is shared counts as often as it is met; a slice's spare places count too). A statement '..UptoSaid' is the law's where the arguments, and the package variables that the reading takes, are together of bulk at most 1048576: NARROWER than '..Said'. Prove '..Said' where nothing that the law and all that it calls make is longer than what came in: it says more and counts as full. Else prove '..UptoSaid'. A law counts once. -/
mutual
def uptoBulk {H : Type} : DataW H → Nat
  | .lit (.string bytes) => bytes.length + 1
  | .lit _ => 1
  | .nil => 1
  | .ptr d => uptoBulk d + 1
  | .slice elems spare => uptoBulkAll elems + uptoBulkAll spare + 1
  | .agg parts => uptoBulkAll parts + 1
  | .iface _ d => uptoBulk d + 1
  | .map entries => uptoBulkEntries entries + 1
  | .held _ => 1
def uptoBulkAll {H : Type} : List (DataW H) → Nat
  | [] => 0
  | d :: r => uptoBulk d + uptoBulkAll r
def uptoBulkEntries {H : Type} : List (Lit × DataW H) → Nat
  | [] => 0
  | x :: r => uptoBulkEntry x + uptoBulkEntries r
def uptoBulkEntry {H : Type} : Lit × DataW H → Nat
  | (.string bytes, d) => bytes.length + uptoBulk d + 1
  | (_, d) => uptoBulk d + 1
 end
def uptoSmall : (H : Type) → List (DataW H) → Bool := fun _ ds => decide (uptoBulkAll ds ≤ 1048576)
def OpenSpec.upto (s : _root_.Go.ChangeSpec) : _root_.Go.OpenSpec := { _root_.Go.OpenSpec.ofChange s with cond := some uptoSmall }

/-- 'thalwegtop.TopLateNotice', WHERE WHAT IT READS IS OF BULK AT MOST 1048576: true; the input reads as it did. -/
def topLateNoticeUptoRow : OpenClaim := { program := "ytclinbbghnebaaagreat", sum := "e262eb9fa67d2b63494f5a767b2323ea386c1bcbe27a5527f2763dfa91120977", func := "thalweg/thalwegtop.TopLateNotice", spec := "topLateNotice", unfollowed := true, recurses := true, plainKeys := false, apart := false, narrowed := true }
def TopLateNoticeUptoSaid : Prop := topLateNoticeUptoRow.holds Tryz.pinned (OpenSpec.upto topLateNoticeSpec)

/-- 'thalwegtop.TopOfferedVoyage', WHERE WHAT IT READS IS OF BULK AT MOST 1048576: true; the input reads as it did. -/
def topOfferedVoyageUptoRow : OpenClaim := { program := "ytclinbbghnebaaagreat", sum := "e262eb9fa67d2b63494f5a767b2323ea386c1bcbe27a5527f2763dfa91120977", func := "thalweg/thalwegtop.TopOfferedVoyage", spec := "topOfferedVoyage", unfollowed := true, recurses := true, plainKeys := false, apart := false, narrowed := true }
def TopOfferedVoyageUptoSaid : Prop := topOfferedVoyageUptoRow.holds Tryz.pinned (OpenSpec.upto topOfferedVoyageSpec)

/-- 'thalwegtop.TopCrewedVoyage', WHERE WHAT IT READS IS OF BULK AT MOST 1048576: true; the input reads as it did. -/
def topCrewedVoyageUptoRow : OpenClaim := { program := "ytclinbbghnebaaagreat", sum := "e262eb9fa67d2b63494f5a767b2323ea386c1bcbe27a5527f2763dfa91120977", func := "thalweg/thalwegtop.TopCrewedVoyage", spec := "topCrewedVoyage", inPlace := ["slices.overlaps[thalweg/crew.span]"], unfollowed := true, recurses := true, plainKeys := false, apart := false, narrowed := true }
def TopCrewedVoyageUptoSaid : Prop := topCrewedVoyageUptoRow.holds Tryz.pinned (OpenSpec.upto topCrewedVoyageSpec)

/-- 'thalwegtop.TopOfferedCrew', WHERE WHAT IT READS IS OF BULK AT MOST 1048576: true; the input reads as it did. -/
def topOfferedCrewUptoRow : OpenClaim := { program := "ytclinbbghnebaaagreat", sum := "e262eb9fa67d2b63494f5a767b2323ea386c1bcbe27a5527f2763dfa91120977", func := "thalweg/thalwegtop.TopOfferedCrew", spec := "topOfferedCrew", inPlace := ["slices.overlaps[thalweg/crew.span]"], unfollowed := true, recurses := true, plainKeys := false, apart := false, narrowed := true }
def TopOfferedCrewUptoSaid : Prop := topOfferedCrewUptoRow.holds Tryz.pinned (OpenSpec.upto topOfferedCrewSpec)

end Rows
end Go.Proofs.YtclinbbghnebaaaGreat
