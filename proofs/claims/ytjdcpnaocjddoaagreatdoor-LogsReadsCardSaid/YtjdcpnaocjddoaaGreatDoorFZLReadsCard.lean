/-
  The law LogsReads: its card. Conditions: none.
-/
import Derived.Test.YtjdcpnaocjddoaaGreatDoorTie
import Derived.Test.YtjdcpnaocjddoaaGreatDoorCards
import Derived.SevenTiedAt
import Derived.Test.YtjdcpnaocjddoaaGreatDoorFK20
namespace Go.Proofs.YtjdcpnaocjddoaaGreatDoor
open Go
theorem provedLogsReadsCard : Rows.LogsReadsCardSaid :=
  Claim7.holds_tied_plain_at .later [] [.data, .data, .data, .data, .sentinel, .sentinel, .pinned] true (true, "3fcaa9b6f5cf1dd40be360870878b893ce79240bd0680abe8a6567c5a578f2d4") true
    provedLogsReads (fun _ h => by cases h) (by kernel_rfl) (fun _ h => by cases h) logsReads_row_tie rfl ⟨rfl, rfl⟩ (by kernel_rfl) rfl
    (fun f fn hf hfn => by
      obtain rfl : f = 8 := Option.some.inj ((show Tryz.prog.funcNamed "thalweg/thalweglaw12.LogsReads" = some 8 by kernel_rfl).symm.trans hf) |>.symm
      obtain rfl : fn = Tryz.f8 := (Option.some.inj (Tryz.func8.symm.trans hfn)).symm
      exact ⟨by kernel_rfl, fun j t ht => by
        rw [Tryz.params8] at ht
        have hm : t ∈ ([25] : List Nat) := by simpa using Array.mem_of_getElem? ht
        have hall : (([25] : List Nat).all fun u => !Tryz.prog.wantsStandIn u) = true := by kernel_rfl
        exact (show Tryz.prog.wantsStandIn t = false by simpa using List.all_eq_true.1 hall t hm)⟩)
    (by kernel_rfl)
#print axioms provedLogsReadsCard
end Go.Proofs.YtjdcpnaocjddoaaGreatDoor
