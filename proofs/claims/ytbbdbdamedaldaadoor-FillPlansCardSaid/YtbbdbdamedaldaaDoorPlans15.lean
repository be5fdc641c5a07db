/- The card of FillPlans: the row, its listed variable tied to the program's text. Whatever the input, the law returns true, and each argument reads afterwards as it did. (part 16) -/
import Derived.SevenTiedAt
import Derived.Test.YtbbdbdamedaldaaDoorCards
import Derived.Test.YtbbdbdamedaldaaDoorTie
import Derived.Test.YtbbdbdamedaldaaDoorPlans14
set_option linter.unusedVariables false
set_option linter.unusedSimpArgs false
section
namespace Go.Proofs.YtbbdbdamedaldaaDoor
open Go
theorem fillPlans_card_holds : Rows.FillPlansCardSaid :=
  Claim7.holds_tied_plain_at .later [] [.funcs] true (true, "36e71969d7188ae2460322446bbe5919798d147b5f9ed7c2097b8652e4b81bc0") false
    RowFillPlans.proved (fun _ h => by cases h) (by kernel_rfl) (fun _ h => by cases h) fillPlans_row_tie rfl ⟨rfl, rfl⟩ (by kernel_rfl) rfl
    (fun f fn hf hfn => by
      obtain rfl : f = 4 := Option.some.inj ((show Tryd.prog.funcNamed "lucifer/luciferlaw05.FillPlans" = some 4 by kernel_rfl).symm.trans hf) |>.symm
      obtain rfl : fn = Tryd.f4 := (Option.some.inj (Tryd.func4.symm.trans hfn)).symm
      exact ⟨by kernel_rfl, fun j t ht => by
        rw [Tryd.params4] at ht
        have hm : t ∈ [24, 38] := by simpa using Array.mem_of_getElem? ht
        have hall : ([24, 38].all fun u => !Tryd.prog.wantsStandIn u) = true := by kernel_rfl
        exact (show Tryd.prog.wantsStandIn t = false by simpa using List.all_eq_true.1 hall t hm)⟩)
    (by kernel_rfl)
end Go.Proofs.YtbbdbdamedaldaaDoor
end
#print axioms Go.Proofs.YtbbdbdamedaldaaDoor.fillPlans_card_holds
