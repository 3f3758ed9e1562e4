/-
  The law TopWorkShared: its card. Conditions: none.
-/
import Derived.Test.YtagmkfbbhfaceaaGreatDoorTie
import Derived.Test.YtagmkfbbhfaceaaGreatDoorCards
import Derived.SevenTiedAt
import Derived.Test.YtagmkfbbhfaceaaGreatDoorCK21
namespace Go.Proofs.YtagmkfbbhfaceaaGreatDoor
open Go
theorem provedTopWorkSharedCard : Rows.TopWorkSharedCardSaid :=
  Claim7.holds_tied_plain_at .later [] [.data, .data, .data, .sentinel, .sentinel] true (true, "c2692d21757c2eecb620ea10423f788846f1be00c35fec78cabf45ae9e21a4d5") true
    provedTopWorkShared (fun _ h => by cases h) (by kernel_rfl) (fun _ h => by cases h) topWorkShared_row_tie rfl ⟨rfl, rfl⟩ (by kernel_rfl) rfl
    (fun f fn hf hfn => by
      obtain rfl : f = 6 := Option.some.inj ((show Tryz.prog.funcNamed "thalweg/thalwegtop.TopWorkShared" = some 6 by kernel_rfl).symm.trans hf) |>.symm
      obtain rfl : fn = Tryz.f6 := (Option.some.inj (Tryz.func6.symm.trans hfn)).symm
      exact ⟨by kernel_rfl, fun j t ht => by
        rw [Tryz.params6] at ht
        have hm : t ∈ ([22, 94] : List Nat) := by simpa using Array.mem_of_getElem? ht
        have hall : (([22, 94] : List Nat).all fun u => !Tryz.prog.wantsStandIn u) = true := by kernel_rfl
        exact (show Tryz.prog.wantsStandIn t = false by simpa using List.all_eq_true.1 hall t hm)⟩)
    (by kernel_rfl)
#print axioms provedTopWorkSharedCard
end Go.Proofs.YtagmkfbbhfaceaaGreatDoor
