/-
  No cell of these rows narrows 'for every input' (looked for: loops, veiled, ifaces, maps, wideKeys, modest, calm, conditions, laid).
  DERIVED. THE GIVEN ROWS OF THIS SEAT. 8 by the template 'for every input the law returns true; each argument reads behind the call as it read before'; 0 by the template 'total and deterministic' (their statements: YtgoajalaomakpaaGreatTotals.lean).
  GIVEN WITH THE SEED: the statements are not yours to turn. If you find one false, say at which input.
  Laid BY PROGRAM, IN A SANDBOX (cutbox-rows.mjs): the forced cells as the released guide's own fill.sh prints them over the translation c9a8d9dfc0ceac11… (all of the seat's roots in one cut). By AI agents, Wed Nov 11 2026. No macro, syntax, notation, axiom, sorry.
-/
import Derived.Test.YtgoajalaomakpaaGreatChecked
import GoSem.Claim
import GoSem.ClaimJoined
import GoSem.ClaimMapViews
import Derived.JoinedTies
import Derived.KernelRfl
namespace Go.Proofs.YtgoajalaomakpaaGreat
/- THE CELL 'sum', in the pinned program and in every row, IS THE sha256 OF THE DUMP (.gsa) THAT YtgoajalaomakpaaGreatProg.lean LOADS. Nothing in Lean hashes anything: it is a label: what it is worth is what the hold of that sum in a sandbox is worth. -/
noncomputable def Tryz.pinned : Pinned := { name := "ytgoajalaomakpaagreat", sum := "c9a8d9dfc0ceac11d7b4f0b9204531803bde8d3abfd35bf230860aa483229d9f", checked := Tryz.checked }
namespace Rows
def none {H : Type} : Left H := { results := [], args := [] }

/-- 'thalweglaw07.FreightMatches': WHATEVER THE INPUT: true; the input reads as it did. -/
def freightMatchesSpec : ChangeSpec := { name := "freightMatches", fn := fun _ => fun
  | [d1, d2] => { results := [.lit (.bool true)], args := [d1, d2] }
  | _ => none }
def freightMatchesRow : OpenClaim := { program := "ytgoajalaomakpaagreat", sum := "c9a8d9dfc0ceac11d7b4f0b9204531803bde8d3abfd35bf230860aa483229d9f", func := "thalweg/thalweglaw07.FreightMatches", spec := "freightMatches", unfollowed := true, recurses := true, plainKeys := false, apart := false }
def FreightMatchesSaid : Prop := freightMatchesRow.holds Tryz.pinned (OpenSpec.ofChange freightMatchesSpec)

/-- ITS FALSE NEIGHBOUR: 'it returns false'. Refute it at one input. -/
def freightMatchesWrong : ChangeSpec := { name := "freightMatches", fn := fun _ => fun
  | [d1, d2] => { results := [.lit (.bool false)], args := [d1, d2] }
  | _ => none }
def FreightMatchesWrongFalsely : Prop := freightMatchesRow.holds Tryz.pinned (OpenSpec.ofChange freightMatchesWrong)

/-- 'thalweglaw07.FreightBests': WHATEVER THE INPUT: true; the input reads as it did. -/
def freightBestsSpec : ChangeSpec := { name := "freightBests", fn := fun _ => fun
  | [d1, d2] => { results := [.lit (.bool true)], args := [d1, d2] }
  | _ => none }
def freightBestsRow : OpenClaim := { program := "ytgoajalaomakpaagreat", sum := "c9a8d9dfc0ceac11d7b4f0b9204531803bde8d3abfd35bf230860aa483229d9f", func := "thalweg/thalweglaw07.FreightBests", spec := "freightBests", unfollowed := true, recurses := true, plainKeys := false, apart := false }
def FreightBestsSaid : Prop := freightBestsRow.holds Tryz.pinned (OpenSpec.ofChange freightBestsSpec)

/-- ITS FALSE NEIGHBOUR: 'it returns false'. Refute it at one input. -/
def freightBestsWrong : ChangeSpec := { name := "freightBests", fn := fun _ => fun
  | [d1, d2] => { results := [.lit (.bool false)], args := [d1, d2] }
  | _ => none }
def FreightBestsWrongFalsely : Prop := freightBestsRow.holds Tryz.pinned (OpenSpec.ofChange freightBestsWrong)

/-- 'thalweglaw07.FreightCents': WHATEVER THE INPUT: true; the input reads as it did. -/
def freightCentsSpec : ChangeSpec := { name := "freightCents", fn := fun _ => fun
  | [d1, d2] => { results := [.lit (.bool true)], args := [d1, d2] }
  | _ => none }
def freightCentsRow : OpenClaim := { program := "ytgoajalaomakpaagreat", sum := "c9a8d9dfc0ceac11d7b4f0b9204531803bde8d3abfd35bf230860aa483229d9f", func := "thalweg/thalweglaw07.FreightCents", spec := "freightCents", unfollowed := true, recurses := true, plainKeys := false, apart := false }
def FreightCentsSaid : Prop := freightCentsRow.holds Tryz.pinned (OpenSpec.ofChange freightCentsSpec)

/-- ITS FALSE NEIGHBOUR: 'it returns false'. Refute it at one input. -/
def freightCentsWrong : ChangeSpec := { name := "freightCents", fn := fun _ => fun
  | [d1, d2] => { results := [.lit (.bool false)], args := [d1, d2] }
  | _ => none }
def FreightCentsWrongFalsely : Prop := freightCentsRow.holds Tryz.pinned (OpenSpec.ofChange freightCentsWrong)

/-- 'thalweglaw07.FreightOnce': WHATEVER THE INPUT: true; the input reads as it did. -/
def freightOnceSpec : ChangeSpec := { name := "freightOnce", fn := fun _ => fun
  | [d1, d2, d3] => { results := [.lit (.bool true)], args := [d1, d2, d3] }
  | _ => none }
def freightOnceRow : OpenClaim := { program := "ytgoajalaomakpaagreat", sum := "c9a8d9dfc0ceac11d7b4f0b9204531803bde8d3abfd35bf230860aa483229d9f", func := "thalweg/thalweglaw07.FreightOnce", spec := "freightOnce", unfollowed := true, recurses := true, plainKeys := false, apart := false }
def FreightOnceSaid : Prop := freightOnceRow.holds Tryz.pinned (OpenSpec.ofChange freightOnceSpec)

/-- ITS FALSE NEIGHBOUR: 'it returns false'. Refute it at one input. -/
def freightOnceWrong : ChangeSpec := { name := "freightOnce", fn := fun _ => fun
  | [d1, d2, d3] => { results := [.lit (.bool false)], args := [d1, d2, d3] }
  | _ => none }
def FreightOnceWrongFalsely : Prop := freightOnceRow.holds Tryz.pinned (OpenSpec.ofChange freightOnceWrong)

/-- 'thalweglaw07.FreightClears': WHATEVER THE INPUT: true; the input reads as it did. -/
def freightClearsSpec : ChangeSpec := { name := "freightClears", fn := fun _ => fun
  | [d1, d2, d3] => { results := [.lit (.bool true)], args := [d1, d2, d3] }
  | _ => none }
def freightClearsRow : OpenClaim := { program := "ytgoajalaomakpaagreat", sum := "c9a8d9dfc0ceac11d7b4f0b9204531803bde8d3abfd35bf230860aa483229d9f", func := "thalweg/thalweglaw07.FreightClears", spec := "freightClears", unfollowed := true, recurses := true, plainKeys := false, apart := false }
def FreightClearsSaid : Prop := freightClearsRow.holds Tryz.pinned (OpenSpec.ofChange freightClearsSpec)

/-- ITS FALSE NEIGHBOUR: 'it returns false'. Refute it at one input. -/
def freightClearsWrong : ChangeSpec := { name := "freightClears", fn := fun _ => fun
  | [d1, d2, d3] => { results := [.lit (.bool false)], args := [d1, d2, d3] }
  | _ => none }
def FreightClearsWrongFalsely : Prop := freightClearsRow.holds Tryz.pinned (OpenSpec.ofChange freightClearsWrong)

/-- 'thalweglaw07.FreightNoBetter': WHATEVER THE INPUT: true; the input reads as it did. -/
def freightNoBetterSpec : ChangeSpec := { name := "freightNoBetter", fn := fun _ => fun
  | [d] => { results := [.lit (.bool true)], args := [d] }
  | _ => none }
def freightNoBetterRow : OpenClaim := { program := "ytgoajalaomakpaagreat", sum := "c9a8d9dfc0ceac11d7b4f0b9204531803bde8d3abfd35bf230860aa483229d9f", func := "thalweg/thalweglaw07.FreightNoBetter", spec := "freightNoBetter", unfollowed := true, recurses := true, plainKeys := false, apart := false }
def FreightNoBetterSaid : Prop := freightNoBetterRow.holds Tryz.pinned (OpenSpec.ofChange freightNoBetterSpec)

/-- ITS FALSE NEIGHBOUR: 'it returns false'. Refute it at one input. -/
def freightNoBetterWrong : ChangeSpec := { name := "freightNoBetter", fn := fun _ => fun
  | [d] => { results := [.lit (.bool false)], args := [d] }
  | _ => none }
def FreightNoBetterWrongFalsely : Prop := freightNoBetterRow.holds Tryz.pinned (OpenSpec.ofChange freightNoBetterWrong)

/-- 'thalweglaw07.FreightFacts': WHATEVER THE INPUT: true; the input reads as it did. -/
def freightFactsSpec : ChangeSpec := { name := "freightFacts", fn := fun _ => fun
  | [d] => { results := [.lit (.bool true)], args := [d] }
  | _ => none }
def freightFactsRow : OpenClaim := { program := "ytgoajalaomakpaagreat", sum := "c9a8d9dfc0ceac11d7b4f0b9204531803bde8d3abfd35bf230860aa483229d9f", func := "thalweg/thalweglaw07.FreightFacts", spec := "freightFacts", unfollowed := true, recurses := true, plainKeys := false, apart := false }
def FreightFactsSaid : Prop := freightFactsRow.holds Tryz.pinned (OpenSpec.ofChange freightFactsSpec)

/-- ITS FALSE NEIGHBOUR: 'it returns false'. Refute it at one input. -/
def freightFactsWrong : ChangeSpec := { name := "freightFacts", fn := fun _ => fun
  | [d] => { results := [.lit (.bool false)], args := [d] }
  | _ => none }
def FreightFactsWrongFalsely : Prop := freightFactsRow.holds Tryz.pinned (OpenSpec.ofChange freightFactsWrong)

/-- 'thalweglaw07.FreightAnyOrder': WHATEVER THE INPUT: true; the input reads as it did. -/
def freightAnyOrderSpec : ChangeSpec := { name := "freightAnyOrder", fn := fun _ => fun
  | [d1, d2, d3] => { results := [.lit (.bool true)], args := [d1, d2, d3] }
  | _ => none }
def freightAnyOrderRow : OpenClaim := { program := "ytgoajalaomakpaagreat", sum := "c9a8d9dfc0ceac11d7b4f0b9204531803bde8d3abfd35bf230860aa483229d9f", func := "thalweg/thalweglaw07.FreightAnyOrder", spec := "freightAnyOrder", unfollowed := true, recurses := true, plainKeys := false, apart := false }
def FreightAnyOrderSaid : Prop := freightAnyOrderRow.holds Tryz.pinned (OpenSpec.ofChange freightAnyOrderSpec)

/-- ITS FALSE NEIGHBOUR: 'it returns false'. Refute it at one input. -/
def freightAnyOrderWrong : ChangeSpec := { name := "freightAnyOrder", fn := fun _ => fun
  | [d1, d2, d3] => { results := [.lit (.bool false)], args := [d1, d2, d3] }
  | _ => none }
def FreightAnyOrderWrongFalsely : Prop := freightAnyOrderRow.holds Tryz.pinned (OpenSpec.ofChange freightAnyOrderWrong)

/- THE SECOND FORM. 'bulk': how many values and letters a reading holds, each counted each time it is reached (what is shared counts as often as it is met; a slice's spare places count too). A statement '..UptoSaid' is the law's where the arguments, and the package variables that the reading takes, are together of bulk at most 1048576: NARROWER than '..Said'. Prove '..Said' where nothing that the law and all that it calls make is longer than what came in: it says more and counts as full. Else prove '..UptoSaid'. A law counts once. -/
mutual
def uptoBulk {H : Type} : DataW H → Nat
  | .lit (.string bytes) => bytes.length + 1
  | .lit _ => 1
  | .nil => 1
  | .ptr d => uptoBulk d + 1
  | .slice elems spare => uptoBulkAll elems + uptoBulkAll spare + 1
  | .agg parts => uptoBulkAll parts + 1
  | .iface _ d => uptoBulk d + 1
  | .map entries => uptoBulkEntries entries + 1
  | .held _ => 1
def uptoBulkAll {H : Type} : List (DataW H) → Nat
  | [] => 0
  | d :: r => uptoBulk d + uptoBulkAll r
def uptoBulkEntries {H : Type} : List (Lit × DataW H) → Nat
  | [] => 0
  | x :: r => uptoBulkEntry x + uptoBulkEntries r
def uptoBulkEntry {H : Type} : Lit × DataW H → Nat
  | (.string bytes, d) => bytes.length + uptoBulk d + 1
  | (_, d) => uptoBulk d + 1
 end
def uptoSmall : (H : Type) → List (DataW H) → Bool := fun _ ds => decide (uptoBulkAll ds ≤ 1048576)
def OpenSpec.upto (s : _root_.Go.ChangeSpec) : _root_.Go.OpenSpec := { _root_.Go.OpenSpec.ofChange s with cond := some uptoSmall }

/-- 'thalweglaw07.FreightMatches', WHERE WHAT IT READS IS OF BULK AT MOST 1048576: true; the input reads as it did. -/
def freightMatchesUptoRow : OpenClaim := { program := "ytgoajalaomakpaagreat", sum := "c9a8d9dfc0ceac11d7b4f0b9204531803bde8d3abfd35bf230860aa483229d9f", func := "thalweg/thalweglaw07.FreightMatches", spec := "freightMatches", unfollowed := true, recurses := true, plainKeys := false, apart := false, narrowed := true }
def FreightMatchesUptoSaid : Prop := freightMatchesUptoRow.holds Tryz.pinned (OpenSpec.upto freightMatchesSpec)

/-- 'thalweglaw07.FreightBests', WHERE WHAT IT READS IS OF BULK AT MOST 1048576: true; the input reads as it did. -/
def freightBestsUptoRow : OpenClaim := { program := "ytgoajalaomakpaagreat", sum := "c9a8d9dfc0ceac11d7b4f0b9204531803bde8d3abfd35bf230860aa483229d9f", func := "thalweg/thalweglaw07.FreightBests", spec := "freightBests", unfollowed := true, recurses := true, plainKeys := false, apart := false, narrowed := true }
def FreightBestsUptoSaid : Prop := freightBestsUptoRow.holds Tryz.pinned (OpenSpec.upto freightBestsSpec)

/-- 'thalweglaw07.FreightCents', WHERE WHAT IT READS IS OF BULK AT MOST 1048576: true; the input reads as it did. -/
def freightCentsUptoRow : OpenClaim := { program := "ytgoajalaomakpaagreat", sum := "c9a8d9dfc0ceac11d7b4f0b9204531803bde8d3abfd35bf230860aa483229d9f", func := "thalweg/thalweglaw07.FreightCents", spec := "freightCents", unfollowed := true, recurses := true, plainKeys := false, apart := false, narrowed := true }
def FreightCentsUptoSaid : Prop := freightCentsUptoRow.holds Tryz.pinned (OpenSpec.upto freightCentsSpec)

/-- 'thalweglaw07.FreightOnce', WHERE WHAT IT READS IS OF BULK AT MOST 1048576: true; the input reads as it did. -/
def freightOnceUptoRow : OpenClaim := { program := "ytgoajalaomakpaagreat", sum := "c9a8d9dfc0ceac11d7b4f0b9204531803bde8d3abfd35bf230860aa483229d9f", func := "thalweg/thalweglaw07.FreightOnce", spec := "freightOnce", unfollowed := true, recurses := true, plainKeys := false, apart := false, narrowed := true }
def FreightOnceUptoSaid : Prop := freightOnceUptoRow.holds Tryz.pinned (OpenSpec.upto freightOnceSpec)

/-- 'thalweglaw07.FreightClears', WHERE WHAT IT READS IS OF BULK AT MOST 1048576: true; the input reads as it did. -/
def freightClearsUptoRow : OpenClaim := { program := "ytgoajalaomakpaagreat", sum := "c9a8d9dfc0ceac11d7b4f0b9204531803bde8d3abfd35bf230860aa483229d9f", func := "thalweg/thalweglaw07.FreightClears", spec := "freightClears", unfollowed := true, recurses := true, plainKeys := false, apart := false, narrowed := true }
def FreightClearsUptoSaid : Prop := freightClearsUptoRow.holds Tryz.pinned (OpenSpec.upto freightClearsSpec)

/-- 'thalweglaw07.FreightNoBetter', WHERE WHAT IT READS IS OF BULK AT MOST 1048576: true; the input reads as it did. -/
def freightNoBetterUptoRow : OpenClaim := { program := "ytgoajalaomakpaagreat", sum := "c9a8d9dfc0ceac11d7b4f0b9204531803bde8d3abfd35bf230860aa483229d9f", func := "thalweg/thalweglaw07.FreightNoBetter", spec := "freightNoBetter", unfollowed := true, recurses := true, plainKeys := false, apart := false, narrowed := true }
def FreightNoBetterUptoSaid : Prop := freightNoBetterUptoRow.holds Tryz.pinned (OpenSpec.upto freightNoBetterSpec)

/-- 'thalweglaw07.FreightFacts', WHERE WHAT IT READS IS OF BULK AT MOST 1048576: true; the input reads as it did. -/
def freightFactsUptoRow : OpenClaim := { program := "ytgoajalaomakpaagreat", sum := "c9a8d9dfc0ceac11d7b4f0b9204531803bde8d3abfd35bf230860aa483229d9f", func := "thalweg/thalweglaw07.FreightFacts", spec := "freightFacts", unfollowed := true, recurses := true, plainKeys := false, apart := false, narrowed := true }
def FreightFactsUptoSaid : Prop := freightFactsUptoRow.holds Tryz.pinned (OpenSpec.upto freightFactsSpec)

/-- 'thalweglaw07.FreightAnyOrder', WHERE WHAT IT READS IS OF BULK AT MOST 1048576: true; the input reads as it did. -/
def freightAnyOrderUptoRow : OpenClaim := { program := "ytgoajalaomakpaagreat", sum := "c9a8d9dfc0ceac11d7b4f0b9204531803bde8d3abfd35bf230860aa483229d9f", func := "thalweg/thalweglaw07.FreightAnyOrder", spec := "freightAnyOrder", unfollowed := true, recurses := true, plainKeys := false, apart := false, narrowed := true }
def FreightAnyOrderUptoSaid : Prop := freightAnyOrderUptoRow.holds Tryz.pinned (OpenSpec.upto freightAnyOrderSpec)

end Rows
end Go.Proofs.YtgoajalaomakpaaGreat
