/-
  No cell of these rows narrows 'for every input' (looked for: loops, veiled, ifaces, maps, wideKeys, modest, calm, conditions, laid).
  DERIVED. THE GIVEN ROWS OF THIS SEAT. 5 by the template 'for every input the law returns true; each argument reads behind the call as it read before'; 0 by the template 'total and deterministic' (their statements: YtagmodjadmecdaaGreatTotals.lean).
  GIVEN WITH THE SEED: the statements are not yours to turn. If you find one false, say at which input.
  Laid BY PROGRAM, IN A SANDBOX (cutbox-rows.mjs): the forced cells as the released guide's own fill.sh prints them over the translation f9c8047153ae7e24… (all of the seat's roots in one cut). By AI agents, Wed Nov 11 2026. No macro, syntax, notation, axiom, sorry.
-/
import Derived.Test.YtagmodjadmecdaaGreatChecked
import GoSem.Claim
import GoSem.ClaimJoined
import GoSem.ClaimMapViews
import Derived.JoinedTies
import Derived.KernelRfl
namespace Go.Proofs.YtagmodjadmecdaaGreat
/- THE CELL 'sum', in the pinned program and in every row, IS THE sha256 OF THE DUMP (.gsa) THAT YtagmodjadmecdaaGreatProg.lean LOADS. Nothing in Lean hashes anything: it is a label: what it is worth is what the hold of that sum in a sandbox is worth. -/
noncomputable def Tryz.pinned : Pinned := { name := "ytagmodjadmecdaagreat", sum := "f9c8047153ae7e24c9062a474ab8ce5f7ed153348d697896aea4548e0f3976fa", checked := Tryz.checked }
namespace Rows
def none {H : Type} : Left H := { results := [], args := [] }

/-- 'thalweglaw09.CrewRests': WHATEVER THE INPUT: true; the input reads as it did. -/
def crewRestsSpec : ChangeSpec := { name := "crewRests", fn := fun _ => fun
  | [d1, d2] => { results := [.lit (.bool true)], args := [d1, d2] }
  | _ => none }
def crewRestsRow : OpenClaim := { program := "ytagmodjadmecdaagreat", sum := "f9c8047153ae7e24c9062a474ab8ce5f7ed153348d697896aea4548e0f3976fa", func := "thalweg/thalweglaw09.CrewRests", spec := "crewRests", inPlace := ["slices.overlaps[thalweg/crew.span]"], unfollowed := true, recurses := true, apart := false }
def CrewRestsSaid : Prop := crewRestsRow.holds Tryz.pinned (OpenSpec.ofChange crewRestsSpec)

/-- ITS FALSE NEIGHBOUR: 'it returns false'. Refute it at one input. -/
def crewRestsWrong : ChangeSpec := { name := "crewRests", fn := fun _ => fun
  | [d1, d2] => { results := [.lit (.bool false)], args := [d1, d2] }
  | _ => none }
def CrewRestsWrongFalsely : Prop := crewRestsRow.holds Tryz.pinned (OpenSpec.ofChange crewRestsWrong)

/-- 'thalweglaw09.CrewNexts': WHATEVER THE INPUT: true; the input reads as it did. -/
def crewNextsSpec : ChangeSpec := { name := "crewNexts", fn := fun _ => fun
  | [d1, d2, d3] => { results := [.lit (.bool true)], args := [d1, d2, d3] }
  | _ => none }
def crewNextsRow : OpenClaim := { program := "ytagmodjadmecdaagreat", sum := "f9c8047153ae7e24c9062a474ab8ce5f7ed153348d697896aea4548e0f3976fa", func := "thalweg/thalweglaw09.CrewNexts", spec := "crewNexts", inPlace := ["slices.overlaps[thalweg/crew.span]"], unfollowed := true, recurses := true, apart := false }
def CrewNextsSaid : Prop := crewNextsRow.holds Tryz.pinned (OpenSpec.ofChange crewNextsSpec)

/-- ITS FALSE NEIGHBOUR: 'it returns false'. Refute it at one input. -/
def crewNextsWrong : ChangeSpec := { name := "crewNexts", fn := fun _ => fun
  | [d1, d2, d3] => { results := [.lit (.bool false)], args := [d1, d2, d3] }
  | _ => none }
def CrewNextsWrongFalsely : Prop := crewNextsRow.holds Tryz.pinned (OpenSpec.ofChange crewNextsWrong)

/-- 'thalweglaw09.CrewPlans': WHATEVER THE INPUT: true; the input reads as it did. -/
def crewPlansSpec : ChangeSpec := { name := "crewPlans", fn := fun _ => fun
  | [d1, d2, d3] => { results := [.lit (.bool true)], args := [d1, d2, d3] }
  | _ => none }
def crewPlansRow : OpenClaim := { program := "ytagmodjadmecdaagreat", sum := "f9c8047153ae7e24c9062a474ab8ce5f7ed153348d697896aea4548e0f3976fa", func := "thalweg/thalweglaw09.CrewPlans", spec := "crewPlans", inPlace := ["slices.overlaps[thalweg/crew.span]"], unfollowed := true, recurses := true, apart := false }
def CrewPlansSaid : Prop := crewPlansRow.holds Tryz.pinned (OpenSpec.ofChange crewPlansSpec)

/-- ITS FALSE NEIGHBOUR: 'it returns false'. Refute it at one input. -/
def crewPlansWrong : ChangeSpec := { name := "crewPlans", fn := fun _ => fun
  | [d1, d2, d3] => { results := [.lit (.bool false)], args := [d1, d2, d3] }
  | _ => none }
def CrewPlansWrongFalsely : Prop := crewPlansRow.holds Tryz.pinned (OpenSpec.ofChange crewPlansWrong)

/-- 'thalweglaw09.CrewMays': WHATEVER THE INPUT: true; the input reads as it did. -/
def crewMaysSpec : ChangeSpec := { name := "crewMays", fn := fun _ => fun
  | [d1, d2, d3] => { results := [.lit (.bool true)], args := [d1, d2, d3] }
  | _ => none }
def crewMaysRow : OpenClaim := { program := "ytagmodjadmecdaagreat", sum := "f9c8047153ae7e24c9062a474ab8ce5f7ed153348d697896aea4548e0f3976fa", func := "thalweg/thalweglaw09.CrewMays", spec := "crewMays", inPlace := ["slices.overlaps[thalweg/crew.span]"], unfollowed := true, recurses := true, apart := false }
def CrewMaysSaid : Prop := crewMaysRow.holds Tryz.pinned (OpenSpec.ofChange crewMaysSpec)

/-- ITS FALSE NEIGHBOUR: 'it returns false'. Refute it at one input. -/
def crewMaysWrong : ChangeSpec := { name := "crewMays", fn := fun _ => fun
  | [d1, d2, d3] => { results := [.lit (.bool false)], args := [d1, d2, d3] }
  | _ => none }
def CrewMaysWrongFalsely : Prop := crewMaysRow.holds Tryz.pinned (OpenSpec.ofChange crewMaysWrong)

/-- 'thalweglaw09.CrewShorts': WHATEVER THE INPUT: true; the input reads as it did. -/
def crewShortsSpec : ChangeSpec := { name := "crewShorts", fn := fun _ => fun
  | [d1, d2, d3] => { results := [.lit (.bool true)], args := [d1, d2, d3] }
  | _ => none }
def crewShortsRow : OpenClaim := { program := "ytagmodjadmecdaagreat", sum := "f9c8047153ae7e24c9062a474ab8ce5f7ed153348d697896aea4548e0f3976fa", func := "thalweg/thalweglaw09.CrewShorts", spec := "crewShorts", inPlace := ["slices.overlaps[thalweg/crew.span]"], unfollowed := true, recurses := true, apart := false }
def CrewShortsSaid : Prop := crewShortsRow.holds Tryz.pinned (OpenSpec.ofChange crewShortsSpec)

/-- ITS FALSE NEIGHBOUR: 'it returns false'. Refute it at one input. -/
def crewShortsWrong : ChangeSpec := { name := "crewShorts", fn := fun _ => fun
  | [d1, d2, d3] => { results := [.lit (.bool false)], args := [d1, d2, d3] }
  | _ => none }
def CrewShortsWrongFalsely : Prop := crewShortsRow.holds Tryz.pinned (OpenSpec.ofChange crewShortsWrong)

/- THE SECOND FORM. 'bulk': how many values and letters a reading holds, each counted each time it is reached (what is shared counts as often as it is met; a slice's spare places count too). A statement '..UptoSaid' is the law's where the arguments, and the package variables that the reading takes, are together of bulk at most 1048576: NARROWER than '..Said'. Prove '..Said' where nothing that the law and all that it calls make is longer than what came in: it says more and counts as full. Else prove '..UptoSaid'. A law counts once. -/
mutual
def uptoBulk {H : Type} : DataW H → Nat
  | .lit (.string bytes) => bytes.length + 1
  | .lit _ => 1
  | .nil => 1
  | .ptr d => uptoBulk d + 1
  | .slice elems spare => uptoBulkAll elems + uptoBulkAll spare + 1
  | .agg parts => uptoBulkAll parts + 1
  | .iface _ d => uptoBulk d + 1
  | .map entries => uptoBulkEntries entries + 1
  | .held _ => 1
def uptoBulkAll {H : Type} : List (DataW H) → Nat
  | [] => 0
  | d :: r => uptoBulk d + uptoBulkAll r
def uptoBulkEntries {H : Type} : List (Lit × DataW H) → Nat
  | [] => 0
  | x :: r => uptoBulkEntry x + uptoBulkEntries r
def uptoBulkEntry {H : Type} : Lit × DataW H → Nat
  | (.string bytes, d) => bytes.length + uptoBulk d + 1
  | (_, d) => uptoBulk d + 1
 end
def uptoSmall : (H : Type) → List (DataW H) → Bool := fun _ ds => decide (uptoBulkAll ds ≤ 1048576)
def OpenSpec.upto (s : _root_.Go.ChangeSpec) : _root_.Go.OpenSpec := { _root_.Go.OpenSpec.ofChange s with cond := some uptoSmall }

/-- 'thalweglaw09.CrewRests', WHERE WHAT IT READS IS OF BULK AT MOST 1048576: true; the input reads as it did. -/
def crewRestsUptoRow : OpenClaim := { program := "ytagmodjadmecdaagreat", sum := "f9c8047153ae7e24c9062a474ab8ce5f7ed153348d697896aea4548e0f3976fa", func := "thalweg/thalweglaw09.CrewRests", spec := "crewRests", inPlace := ["slices.overlaps[thalweg/crew.span]"], unfollowed := true, recurses := true, apart := false, narrowed := true }
def CrewRestsUptoSaid : Prop := crewRestsUptoRow.holds Tryz.pinned (OpenSpec.upto crewRestsSpec)

/-- 'thalweglaw09.CrewNexts', WHERE WHAT IT READS IS OF BULK AT MOST 1048576: true; the input reads as it did. -/
def crewNextsUptoRow : OpenClaim := { program := "ytagmodjadmecdaagreat", sum := "f9c8047153ae7e24c9062a474ab8ce5f7ed153348d697896aea4548e0f3976fa", func := "thalweg/thalweglaw09.CrewNexts", spec := "crewNexts", inPlace := ["slices.overlaps[thalweg/crew.span]"], unfollowed := true, recurses := true, apart := false, narrowed := true }
def CrewNextsUptoSaid : Prop := crewNextsUptoRow.holds Tryz.pinned (OpenSpec.upto crewNextsSpec)

/-- 'thalweglaw09.CrewPlans', WHERE WHAT IT READS IS OF BULK AT MOST 1048576: true; the input reads as it did. -/
def crewPlansUptoRow : OpenClaim := { program := "ytagmodjadmecdaagreat", sum := "f9c8047153ae7e24c9062a474ab8ce5f7ed153348d697896aea4548e0f3976fa", func := "thalweg/thalweglaw09.CrewPlans", spec := "crewPlans", inPlace := ["slices.overlaps[thalweg/crew.span]"], unfollowed := true, recurses := true, apart := false, narrowed := true }
def CrewPlansUptoSaid : Prop := crewPlansUptoRow.holds Tryz.pinned (OpenSpec.upto crewPlansSpec)

/-- 'thalweglaw09.CrewMays', WHERE WHAT IT READS IS OF BULK AT MOST 1048576: true; the input reads as it did. -/
def crewMaysUptoRow : OpenClaim := { program := "ytagmodjadmecdaagreat", sum := "f9c8047153ae7e24c9062a474ab8ce5f7ed153348d697896aea4548e0f3976fa", func := "thalweg/thalweglaw09.CrewMays", spec := "crewMays", inPlace := ["slices.overlaps[thalweg/crew.span]"], unfollowed := true, recurses := true, apart := false, narrowed := true }
def CrewMaysUptoSaid : Prop := crewMaysUptoRow.holds Tryz.pinned (OpenSpec.upto crewMaysSpec)

/-- 'thalweglaw09.CrewShorts', WHERE WHAT IT READS IS OF BULK AT MOST 1048576: true; the input reads as it did. -/
def crewShortsUptoRow : OpenClaim := { program := "ytagmodjadmecdaagreat", sum := "f9c8047153ae7e24c9062a474ab8ce5f7ed153348d697896aea4548e0f3976fa", func := "thalweg/thalweglaw09.CrewShorts", spec := "crewShorts", inPlace := ["slices.overlaps[thalweg/crew.span]"], unfollowed := true, recurses := true, apart := false, narrowed := true }
def CrewShortsUptoSaid : Prop := crewShortsUptoRow.holds Tryz.pinned (OpenSpec.upto crewShortsSpec)

end Rows
end Go.Proofs.YtagmodjadmecdaaGreat
