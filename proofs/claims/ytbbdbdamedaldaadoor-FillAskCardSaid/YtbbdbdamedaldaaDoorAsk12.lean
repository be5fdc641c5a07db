/- The card of FillAsk: the row, its listed variable tied to the program's text. Whatever the input, the law returns true, and each argument reads afterwards as it did. (part 13) -/
import Derived.SevenTiedAt
import Derived.Test.YtbbdbdamedaldaaDoorCards
import Derived.Test.YtbbdbdamedaldaaDoorTie
import Derived.Test.YtbbdbdamedaldaaDoorAsk11
set_option linter.unusedVariables false
set_option linter.unusedSimpArgs false
section
namespace Go.Proofs.YtbbdbdamedaldaaDoor
open Go
theorem fillAsk_card_holds : Rows.FillAskCardSaid :=
  Claim7.holds_tied_plain_at .later [] [.funcs] true (true, "36e71969d7188ae2460322446bbe5919798d147b5f9ed7c2097b8652e4b81bc0") false
    RowFillAsk.proved (fun _ h => by cases h) (by kernel_rfl) (fun _ h => by cases h) fillAsk_row_tie rfl ⟨rfl, rfl⟩ (by kernel_rfl) rfl
    (fun f fn hf hfn => by
      obtain rfl : f = 13 := Option.some.inj ((show Tryd.prog.funcNamed "lucifer/luciferlaw05.FillAsk" = some 13 by kernel_rfl).symm.trans hf) |>.symm
      obtain rfl : fn = Tryd.f13 := (Option.some.inj (Tryd.func13.symm.trans hfn)).symm
      exact ⟨by kernel_rfl, fun j t ht => by
        rw [Tryd.params13] at ht
        have hm : t ∈ [24, 3] := by simpa using Array.mem_of_getElem? ht
        have hall : ([24, 3].all fun u => !Tryd.prog.wantsStandIn u) = true := by kernel_rfl
        exact (show Tryd.prog.wantsStandIn t = false by simpa using List.all_eq_true.1 hall t hm)⟩)
    (by kernel_rfl)
end Go.Proofs.YtbbdbdamedaldaaDoor
end
#print axioms Go.Proofs.YtbbdbdamedaldaaDoor.fillAsk_card_holds
