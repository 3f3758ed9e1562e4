/-
  The law LogsDamage: its card. Conditions: none.
-/
import Derived.Test.YtjdcpnaocjddoaaGreatDoorTie
import Derived.Test.YtjdcpnaocjddoaaGreatDoorCards
import Derived.SevenTiedAt
import Derived.Test.YtjdcpnaocjddoaaGreatDoorJK25
namespace Go.Proofs.YtjdcpnaocjddoaaGreatDoor
open Go
theorem provedLogsDamageCard : Rows.LogsDamageCardSaid :=
  Claim7.holds_tied_plain_at .later [] [.data, .data, .data, .data, .sentinel, .sentinel, .pinned] true (true, "3fcaa9b6f5cf1dd40be360870878b893ce79240bd0680abe8a6567c5a578f2d4") true
    provedLogsDamage (fun _ h => by cases h) (by kernel_rfl) (fun _ h => by cases h) logsDamage_row_tie rfl ⟨rfl, rfl⟩ (by kernel_rfl) rfl
    (fun f fn hf hfn => by
      obtain rfl : f = 11 := Option.some.inj ((show Tryz.prog.funcNamed "thalweg/thalweglaw12.LogsDamage" = some 11 by kernel_rfl).symm.trans hf) |>.symm
      obtain rfl : fn = Tryz.f11 := (Option.some.inj (Tryz.func11.symm.trans hfn)).symm
      exact ⟨by kernel_rfl, fun j t ht => by
        rw [Tryz.params11] at ht
        have hm : t ∈ ([22, 88, 92] : List Nat) := by simpa using Array.mem_of_getElem? ht
        have hall : (([22, 88, 92] : List Nat).all fun u => !Tryz.prog.wantsStandIn u) = true := by kernel_rfl
        exact (show Tryz.prog.wantsStandIn t = false by simpa using List.all_eq_true.1 hall t hm)⟩)
    (by kernel_rfl)
#print axioms provedLogsDamageCard
end Go.Proofs.YtjdcpnaocjddoaaGreatDoor
