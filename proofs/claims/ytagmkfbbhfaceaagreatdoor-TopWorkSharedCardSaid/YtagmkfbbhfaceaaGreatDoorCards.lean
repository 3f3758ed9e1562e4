/-
  DERIVED. GIVEN WITH THE SEED: THE CARDS: each row of YtagmkfbbhfaceaaGreatDoorRows.lean that lists a variable, with what it lists TIED to the program's text (the seventh form; the later family's looks); each row that meets fmt, with fmt's text TOLD by the authors' own Lean function (tested against real Go, not proved from fmt's source: count such statements apart). THE CARD IS WHAT COUNTS. Prove the row's statement (the work); the ties are given (YtagmkfbbhfaceaaGreatDoorTie.lean); close each card by the builder's one call (the guide's Derived/Test/ToyasCard.lean, 'card_holds'). Laid BY PROGRAM, IN A SANDBOX (cutbox-door.mjs). By AI agents, Wed Nov 11 2026. No macro, syntax, notation, axiom, sorry.
-/
import Derived.Test.YtagmkfbbhfaceaaGreatDoorRows
import GoSem.ClaimSeven
namespace Go.Proofs.YtagmkfbbhfaceaaGreatDoor
namespace Rows

/-- THE TIED CARD OF 'thalwegtop.TopLogSeen'. -/
def topLogSeenCard : Claim7 := { stood := { row := topLogSeenRow, standIns := [], harness := (true, "c2692d21757c2eecb620ea10423f788846f1be00c35fec78cabf45ae9e21a4d5"), looks := true }, kinds := [], alts := [], laidByText := true, laidKinds := [.data, .data, .data, .sentinel, .sentinel], laidTests := true, laidLooks := .later }
def TopLogSeenCardSaid : Prop := Claim7.holds Tryz.pinned (.plain (OpenSpec.ofChange topLogSeenSpec)) topLogSeenCard

/-- THE TIED CARD OF 'thalwegtop.TopSailedLog'. -/
def topSailedLogCard : Claim7 := { stood := { row := topSailedLogRow, standIns := [], harness := (true, "c2692d21757c2eecb620ea10423f788846f1be00c35fec78cabf45ae9e21a4d5"), looks := true }, kinds := [], alts := [], laidByText := true, laidKinds := [.data, .data, .data, .sentinel, .sentinel], laidTests := true, laidLooks := .later }
def TopSailedLogCardSaid : Prop := Claim7.holds Tryz.pinned (.plain (OpenSpec.ofChange topSailedLogSpec)) topSailedLogCard

/-- THE TIED CARD OF 'thalwegtop.TopGaugeFile'. -/
def topGaugeFileCard : Claim7 := { stood := { row := topGaugeFileRow, standIns := [], harness := (true, "c2692d21757c2eecb620ea10423f788846f1be00c35fec78cabf45ae9e21a4d5"), looks := true }, kinds := [], alts := [], laidByText := true, laidKinds := [.data, .data, .data, .data, .sentinel, .sentinel, .pinned], laidTests := true, laidLooks := .later }
def TopGaugeFileCardSaid : Prop := Claim7.holds Tryz.pinned (.plain (OpenSpec.ofChange topGaugeFileSpec)) topGaugeFileCard

/-- THE TIED CARD OF 'thalwegtop.TopWorkShared'. -/
def topWorkSharedCard : Claim7 := { stood := { row := topWorkSharedRow, standIns := [], harness := (true, "c2692d21757c2eecb620ea10423f788846f1be00c35fec78cabf45ae9e21a4d5"), looks := true }, kinds := [], alts := [], laidByText := true, laidKinds := [.data, .data, .data, .sentinel, .sentinel], laidTests := true, laidLooks := .later }
def TopWorkSharedCardSaid : Prop := Claim7.holds Tryz.pinned (.plain (OpenSpec.ofChange topWorkSharedSpec)) topWorkSharedCard

/-- THE SECOND FORM's CARD OF 'thalwegtop.TopLogSeen'. -/
def topLogSeenUptoCard : Claim7 := { stood := { row := topLogSeenUptoRow, standIns := [], harness := (true, "c2692d21757c2eecb620ea10423f788846f1be00c35fec78cabf45ae9e21a4d5"), looks := true }, kinds := [], alts := [], laidByText := true, laidKinds := [.data, .data, .data, .sentinel, .sentinel], laidTests := true, laidLooks := .later }
def TopLogSeenUptoCardSaid : Prop := Claim7.holds Tryz.pinned (.plain (OpenSpec.upto topLogSeenSpec)) topLogSeenUptoCard

/-- THE SECOND FORM's CARD OF 'thalwegtop.TopSailedLog'. -/
def topSailedLogUptoCard : Claim7 := { stood := { row := topSailedLogUptoRow, standIns := [], harness := (true, "c2692d21757c2eecb620ea10423f788846f1be00c35fec78cabf45ae9e21a4d5"), looks := true }, kinds := [], alts := [], laidByText := true, laidKinds := [.data, .data, .data, .sentinel, .sentinel], laidTests := true, laidLooks := .later }
def TopSailedLogUptoCardSaid : Prop := Claim7.holds Tryz.pinned (.plain (OpenSpec.upto topSailedLogSpec)) topSailedLogUptoCard

/-- THE SECOND FORM's CARD OF 'thalwegtop.TopGaugeFile'. -/
def topGaugeFileUptoCard : Claim7 := { stood := { row := topGaugeFileUptoRow, standIns := [], harness := (true, "c2692d21757c2eecb620ea10423f788846f1be00c35fec78cabf45ae9e21a4d5"), looks := true }, kinds := [], alts := [], laidByText := true, laidKinds := [.data, .data, .data, .data, .sentinel, .sentinel, .pinned], laidTests := true, laidLooks := .later }
def TopGaugeFileUptoCardSaid : Prop := Claim7.holds Tryz.pinned (.plain (OpenSpec.upto topGaugeFileSpec)) topGaugeFileUptoCard

/-- THE SECOND FORM's CARD OF 'thalwegtop.TopWorkShared'. -/
def topWorkSharedUptoCard : Claim7 := { stood := { row := topWorkSharedUptoRow, standIns := [], harness := (true, "c2692d21757c2eecb620ea10423f788846f1be00c35fec78cabf45ae9e21a4d5"), looks := true }, kinds := [], alts := [], laidByText := true, laidKinds := [.data, .data, .data, .sentinel, .sentinel], laidTests := true, laidLooks := .later }
def TopWorkSharedUptoCardSaid : Prop := Claim7.holds Tryz.pinned (.plain (OpenSpec.upto topWorkSharedSpec)) topWorkSharedUptoCard
end Rows
end Go.Proofs.YtagmkfbbhfaceaaGreatDoor
