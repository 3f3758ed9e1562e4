/-
  DERIVED. GIVEN WITH THE SEED: THE CARDS: each row of YtjdcpnaocjddoaaGreatDoorRows.lean that lists a variable, with what it lists TIED to the program's text (the seventh form; the later family's looks); each row that meets fmt, with fmt's text TOLD by the authors' own Lean function (tested against real Go, not proved from fmt's source: count such statements apart). THE CARD IS WHAT COUNTS. Prove the row's statement (the work); the ties are given (YtjdcpnaocjddoaaGreatDoorTie.lean); close each card by the builder's one call (the guide's Derived/Test/ToyasCard.lean, 'card_holds'). Laid BY PROGRAM, IN A SANDBOX (cutbox-door.mjs). By AI agents, Wed Nov 11 2026. No macro, syntax, notation, axiom, sorry.
-/
import Derived.Test.YtjdcpnaocjddoaaGreatDoorRows
import GoSem.ClaimSeven
namespace Go.Proofs.YtjdcpnaocjddoaaGreatDoor
namespace Rows

/-- THE TIED CARD OF 'thalweglaw12.LogsWrites'. -/
def logsWritesCard : Claim7 := { stood := { row := logsWritesRow, standIns := [], harness := (true, "3fcaa9b6f5cf1dd40be360870878b893ce79240bd0680abe8a6567c5a578f2d4"), looks := true }, kinds := [], alts := [], laidByText := true, laidKinds := [.data, .data, .data, .data, .sentinel, .sentinel, .pinned], laidTests := true, laidLooks := .later }
def LogsWritesCardSaid : Prop := Claim7.holds Tryz.pinned (.plain (OpenSpec.ofChange logsWritesSpec)) logsWritesCard

/-- THE TIED CARD OF 'thalweglaw12.LogsReplays'. -/
def logsReplaysCard : Claim7 := { stood := { row := logsReplaysRow, standIns := [], harness := (true, "3fcaa9b6f5cf1dd40be360870878b893ce79240bd0680abe8a6567c5a578f2d4"), looks := true }, kinds := [], alts := [], laidByText := true, laidKinds := [.data, .data, .data, .data, .sentinel, .sentinel, .pinned], laidTests := true, laidLooks := .later }
def LogsReplaysCardSaid : Prop := Claim7.holds Tryz.pinned (.plain (OpenSpec.ofChange logsReplaysSpec)) logsReplaysCard

/-- THE TIED CARD OF 'thalweglaw12.LogsSeasons'. -/
def logsSeasonsCard : Claim7 := { stood := { row := logsSeasonsRow, standIns := [], harness := (true, "3fcaa9b6f5cf1dd40be360870878b893ce79240bd0680abe8a6567c5a578f2d4"), looks := true }, kinds := [], alts := [], laidByText := true, laidKinds := [.data, .data, .data, .data, .sentinel, .sentinel, .pinned], laidTests := true, laidLooks := .later }
def LogsSeasonsCardSaid : Prop := Claim7.holds Tryz.pinned (.plain (OpenSpec.ofChange logsSeasonsSpec)) logsSeasonsCard

/-- THE TIED CARD OF 'thalweglaw12.LogsCodes'. -/
def logsCodesCard : Claim7 := { stood := { row := logsCodesRow, standIns := [], harness := (true, "3fcaa9b6f5cf1dd40be360870878b893ce79240bd0680abe8a6567c5a578f2d4"), looks := true }, kinds := [], alts := [], laidByText := true, laidKinds := [.data, .data, .data, .data, .sentinel, .sentinel, .pinned], laidTests := true, laidLooks := .later }
def LogsCodesCardSaid : Prop := Claim7.holds Tryz.pinned (.plain (OpenSpec.ofChange logsCodesSpec)) logsCodesCard

/-- THE TIED CARD OF 'thalweglaw12.LogsRestored'. -/
def logsRestoredCard : Claim7 := { stood := { row := logsRestoredRow, standIns := [], harness := (true, "3fcaa9b6f5cf1dd40be360870878b893ce79240bd0680abe8a6567c5a578f2d4"), looks := true }, kinds := [], alts := [], laidByText := true, laidKinds := [.data, .data, .data, .data, .sentinel, .sentinel, .pinned], laidTests := true, laidLooks := .later }
def LogsRestoredCardSaid : Prop := Claim7.holds Tryz.pinned (.plain (OpenSpec.ofChange logsRestoredSpec)) logsRestoredCard

/-- THE TIED CARD OF 'thalweglaw12.LogsReads'. -/
def logsReadsCard : Claim7 := { stood := { row := logsReadsRow, standIns := [], harness := (true, "3fcaa9b6f5cf1dd40be360870878b893ce79240bd0680abe8a6567c5a578f2d4"), looks := true }, kinds := [], alts := [], laidByText := true, laidKinds := [.data, .data, .data, .data, .sentinel, .sentinel, .pinned], laidTests := true, laidLooks := .later }
def LogsReadsCardSaid : Prop := Claim7.holds Tryz.pinned (.plain (OpenSpec.ofChange logsReadsSpec)) logsReadsCard

/-- THE TIED CARD OF 'thalweglaw12.LogsBills'. -/
def logsBillsCard : Claim7 := { stood := { row := logsBillsRow, standIns := [], harness := (true, "3fcaa9b6f5cf1dd40be360870878b893ce79240bd0680abe8a6567c5a578f2d4"), looks := true }, kinds := [], alts := [], laidByText := true, laidKinds := [.data, .data, .data, .data, .sentinel, .sentinel, .pinned], laidTests := true, laidLooks := .later }
def LogsBillsCardSaid : Prop := Claim7.holds Tryz.pinned (.plain (OpenSpec.ofChange logsBillsSpec)) logsBillsCard

/-- THE TIED CARD OF 'thalweglaw12.LogsGauges'. -/
def logsGaugesCard : Claim7 := { stood := { row := logsGaugesRow, standIns := [], harness := (true, "3fcaa9b6f5cf1dd40be360870878b893ce79240bd0680abe8a6567c5a578f2d4"), looks := true }, kinds := [], alts := [], laidByText := true, laidKinds := [.data, .data, .data, .data, .sentinel, .sentinel, .pinned], laidTests := true, laidLooks := .later }
def LogsGaugesCardSaid : Prop := Claim7.holds Tryz.pinned (.plain (OpenSpec.ofChange logsGaugesSpec)) logsGaugesCard

/-- THE TIED CARD OF 'thalweglaw12.LogsDamage'. -/
def logsDamageCard : Claim7 := { stood := { row := logsDamageRow, standIns := [], harness := (true, "3fcaa9b6f5cf1dd40be360870878b893ce79240bd0680abe8a6567c5a578f2d4"), looks := true }, kinds := [], alts := [], laidByText := true, laidKinds := [.data, .data, .data, .data, .sentinel, .sentinel, .pinned], laidTests := true, laidLooks := .later }
def LogsDamageCardSaid : Prop := Claim7.holds Tryz.pinned (.plain (OpenSpec.ofChange logsDamageSpec)) logsDamageCard

/-- THE TIED CARD OF 'thalweglaw12.LogsOnce'. -/
def logsOnceCard : Claim7 := { stood := { row := logsOnceRow, standIns := [], harness := (true, "3fcaa9b6f5cf1dd40be360870878b893ce79240bd0680abe8a6567c5a578f2d4"), looks := true }, kinds := [], alts := [], laidByText := true, laidKinds := [.data, .data, .data, .data, .sentinel, .sentinel, .pinned], laidTests := true, laidLooks := .later }
def LogsOnceCardSaid : Prop := Claim7.holds Tryz.pinned (.plain (OpenSpec.ofChange logsOnceSpec)) logsOnceCard

/-- THE SECOND FORM's CARD OF 'thalweglaw12.LogsWrites'. -/
def logsWritesUptoCard : Claim7 := { stood := { row := logsWritesUptoRow, standIns := [], harness := (true, "3fcaa9b6f5cf1dd40be360870878b893ce79240bd0680abe8a6567c5a578f2d4"), looks := true }, kinds := [], alts := [], laidByText := true, laidKinds := [.data, .data, .data, .data, .sentinel, .sentinel, .pinned], laidTests := true, laidLooks := .later }
def LogsWritesUptoCardSaid : Prop := Claim7.holds Tryz.pinned (.plain (OpenSpec.upto logsWritesSpec)) logsWritesUptoCard

/-- THE SECOND FORM's CARD OF 'thalweglaw12.LogsReplays'. -/
def logsReplaysUptoCard : Claim7 := { stood := { row := logsReplaysUptoRow, standIns := [], harness := (true, "3fcaa9b6f5cf1dd40be360870878b893ce79240bd0680abe8a6567c5a578f2d4"), looks := true }, kinds := [], alts := [], laidByText := true, laidKinds := [.data, .data, .data, .data, .sentinel, .sentinel, .pinned], laidTests := true, laidLooks := .later }
def LogsReplaysUptoCardSaid : Prop := Claim7.holds Tryz.pinned (.plain (OpenSpec.upto logsReplaysSpec)) logsReplaysUptoCard

/-- THE SECOND FORM's CARD OF 'thalweglaw12.LogsSeasons'. -/
def logsSeasonsUptoCard : Claim7 := { stood := { row := logsSeasonsUptoRow, standIns := [], harness := (true, "3fcaa9b6f5cf1dd40be360870878b893ce79240bd0680abe8a6567c5a578f2d4"), looks := true }, kinds := [], alts := [], laidByText := true, laidKinds := [.data, .data, .data, .data, .sentinel, .sentinel, .pinned], laidTests := true, laidLooks := .later }
def LogsSeasonsUptoCardSaid : Prop := Claim7.holds Tryz.pinned (.plain (OpenSpec.upto logsSeasonsSpec)) logsSeasonsUptoCard

/-- THE SECOND FORM's CARD OF 'thalweglaw12.LogsCodes'. -/
def logsCodesUptoCard : Claim7 := { stood := { row := logsCodesUptoRow, standIns := [], harness := (true, "3fcaa9b6f5cf1dd40be360870878b893ce79240bd0680abe8a6567c5a578f2d4"), looks := true }, kinds := [], alts := [], laidByText := true, laidKinds := [.data, .data, .data, .data, .sentinel, .sentinel, .pinned], laidTests := true, laidLooks := .later }
def LogsCodesUptoCardSaid : Prop := Claim7.holds Tryz.pinned (.plain (OpenSpec.upto logsCodesSpec)) logsCodesUptoCard

/-- THE SECOND FORM's CARD OF 'thalweglaw12.LogsRestored'. -/
def logsRestoredUptoCard : Claim7 := { stood := { row := logsRestoredUptoRow, standIns := [], harness := (true, "3fcaa9b6f5cf1dd40be360870878b893ce79240bd0680abe8a6567c5a578f2d4"), looks := true }, kinds := [], alts := [], laidByText := true, laidKinds := [.data, .data, .data, .data, .sentinel, .sentinel, .pinned], laidTests := true, laidLooks := .later }
def LogsRestoredUptoCardSaid : Prop := Claim7.holds Tryz.pinned (.plain (OpenSpec.upto logsRestoredSpec)) logsRestoredUptoCard

/-- THE SECOND FORM's CARD OF 'thalweglaw12.LogsReads'. -/
def logsReadsUptoCard : Claim7 := { stood := { row := logsReadsUptoRow, standIns := [], harness := (true, "3fcaa9b6f5cf1dd40be360870878b893ce79240bd0680abe8a6567c5a578f2d4"), looks := true }, kinds := [], alts := [], laidByText := true, laidKinds := [.data, .data, .data, .data, .sentinel, .sentinel, .pinned], laidTests := true, laidLooks := .later }
def LogsReadsUptoCardSaid : Prop := Claim7.holds Tryz.pinned (.plain (OpenSpec.upto logsReadsSpec)) logsReadsUptoCard

/-- THE SECOND FORM's CARD OF 'thalweglaw12.LogsBills'. -/
def logsBillsUptoCard : Claim7 := { stood := { row := logsBillsUptoRow, standIns := [], harness := (true, "3fcaa9b6f5cf1dd40be360870878b893ce79240bd0680abe8a6567c5a578f2d4"), looks := true }, kinds := [], alts := [], laidByText := true, laidKinds := [.data, .data, .data, .data, .sentinel, .sentinel, .pinned], laidTests := true, laidLooks := .later }
def LogsBillsUptoCardSaid : Prop := Claim7.holds Tryz.pinned (.plain (OpenSpec.upto logsBillsSpec)) logsBillsUptoCard

/-- THE SECOND FORM's CARD OF 'thalweglaw12.LogsGauges'. -/
def logsGaugesUptoCard : Claim7 := { stood := { row := logsGaugesUptoRow, standIns := [], harness := (true, "3fcaa9b6f5cf1dd40be360870878b893ce79240bd0680abe8a6567c5a578f2d4"), looks := true }, kinds := [], alts := [], laidByText := true, laidKinds := [.data, .data, .data, .data, .sentinel, .sentinel, .pinned], laidTests := true, laidLooks := .later }
def LogsGaugesUptoCardSaid : Prop := Claim7.holds Tryz.pinned (.plain (OpenSpec.upto logsGaugesSpec)) logsGaugesUptoCard

/-- THE SECOND FORM's CARD OF 'thalweglaw12.LogsDamage'. -/
def logsDamageUptoCard : Claim7 := { stood := { row := logsDamageUptoRow, standIns := [], harness := (true, "3fcaa9b6f5cf1dd40be360870878b893ce79240bd0680abe8a6567c5a578f2d4"), looks := true }, kinds := [], alts := [], laidByText := true, laidKinds := [.data, .data, .data, .data, .sentinel, .sentinel, .pinned], laidTests := true, laidLooks := .later }
def LogsDamageUptoCardSaid : Prop := Claim7.holds Tryz.pinned (.plain (OpenSpec.upto logsDamageSpec)) logsDamageUptoCard

/-- THE SECOND FORM's CARD OF 'thalweglaw12.LogsOnce'. -/
def logsOnceUptoCard : Claim7 := { stood := { row := logsOnceUptoRow, standIns := [], harness := (true, "3fcaa9b6f5cf1dd40be360870878b893ce79240bd0680abe8a6567c5a578f2d4"), looks := true }, kinds := [], alts := [], laidByText := true, laidKinds := [.data, .data, .data, .data, .sentinel, .sentinel, .pinned], laidTests := true, laidLooks := .later }
def LogsOnceUptoCardSaid : Prop := Claim7.holds Tryz.pinned (.plain (OpenSpec.upto logsOnceSpec)) logsOnceUptoCard
end Rows
end Go.Proofs.YtjdcpnaocjddoaaGreatDoor
