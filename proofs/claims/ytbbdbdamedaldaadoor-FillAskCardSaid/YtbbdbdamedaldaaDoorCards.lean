/-
  DERIVED. GIVEN WITH THE SEED: THE CARDS: each row of YtbbdbdamedaldaaDoorRows.lean that lists a variable, with what it lists TIED to the program's text (the seventh form; the later family's looks); each row that meets fmt, with fmt's text TOLD by the authors' own Lean function (tested against real Go, not proved from fmt's source: count such statements apart). THE CARD IS WHAT COUNTS. Prove the row's statement (the work); the ties are given (YtbbdbdamedaldaaDoorTie.lean); close each card by the builder's one call (the guide's Derived/Test/ToyasCard.lean, 'card_holds'). Laid BY PROGRAM, IN A SANDBOX (cutbox-door.mjs). By AI agents, Wed Nov 11 2026. No macro, syntax, notation, axiom, sorry.
-/
import Derived.Test.YtbbdbdamedaldaaDoorRows
import GoSem.ClaimSeven
namespace Go.Proofs.YtbbdbdamedaldaaDoor
namespace Rows

/-- THE TIED CARD OF 'luciferlaw05.FillKinds'. -/
def fillKindsCard : Claim7 := { stood := { row := fillKindsRow, standIns := [], harness := (true, "36e71969d7188ae2460322446bbe5919798d147b5f9ed7c2097b8652e4b81bc0"), looks := false }, kinds := [], alts := [], laidByText := true, laidKinds := [.funcs], laidTests := true, laidLooks := .later }
def FillKindsCardSaid : Prop := Claim7.holds Tryd.pinned (.plain (OpenSpec.ofChange fillKindsSpec)) fillKindsCard

/-- THE TIED CARD OF 'luciferlaw05.FillPlans'. -/
def fillPlansCard : Claim7 := { stood := { row := fillPlansRow, standIns := [], harness := (true, "36e71969d7188ae2460322446bbe5919798d147b5f9ed7c2097b8652e4b81bc0"), looks := false }, kinds := [], alts := [], laidByText := true, laidKinds := [.funcs], laidTests := true, laidLooks := .later }
def FillPlansCardSaid : Prop := Claim7.holds Tryd.pinned (.plain (OpenSpec.ofChange fillPlansSpec)) fillPlansCard

/-- THE TIED CARD OF 'luciferlaw05.FillBests'. -/
def fillBestsCard : Claim7 := { stood := { row := fillBestsRow, standIns := [], harness := (true, "36e71969d7188ae2460322446bbe5919798d147b5f9ed7c2097b8652e4b81bc0"), looks := false }, kinds := [], alts := [], laidByText := true, laidKinds := [.funcs], laidTests := true, laidLooks := .later }
def FillBestsCardSaid : Prop := Claim7.holds Tryd.pinned (.plain (OpenSpec.ofChange fillBestsSpec)) fillBestsCard

/-- THE TIED CARD OF 'luciferlaw05.FillTrue'. -/
def fillTrueCard : Claim7 := { stood := { row := fillTrueRow, standIns := [], harness := (true, "36e71969d7188ae2460322446bbe5919798d147b5f9ed7c2097b8652e4b81bc0"), looks := false }, kinds := [], alts := [], laidByText := true, laidKinds := [.funcs], laidTests := true, laidLooks := .later }
def FillTrueCardSaid : Prop := Claim7.holds Tryd.pinned (.plain (OpenSpec.ofChange fillTrueSpec)) fillTrueCard

/-- THE TIED CARD OF 'luciferlaw05.FillFewest'. -/
def fillFewestCard : Claim7 := { stood := { row := fillFewestRow, standIns := [], harness := (true, "36e71969d7188ae2460322446bbe5919798d147b5f9ed7c2097b8652e4b81bc0"), looks := false }, kinds := [], alts := [], laidByText := true, laidKinds := [.funcs], laidTests := true, laidLooks := .later }
def FillFewestCardSaid : Prop := Claim7.holds Tryd.pinned (.plain (OpenSpec.ofChange fillFewestSpec)) fillFewestCard

/-- THE TIED CARD OF 'luciferlaw05.FillMost'. -/
def fillMostCard : Claim7 := { stood := { row := fillMostRow, standIns := [], harness := (true, "36e71969d7188ae2460322446bbe5919798d147b5f9ed7c2097b8652e4b81bc0"), looks := false }, kinds := [], alts := [], laidByText := true, laidKinds := [.funcs], laidTests := true, laidLooks := .later }
def FillMostCardSaid : Prop := Claim7.holds Tryd.pinned (.plain (OpenSpec.ofChange fillMostSpec)) fillMostCard

/-- THE TIED CARD OF 'luciferlaw05.FillAny'. -/
def fillAnyCard : Claim7 := { stood := { row := fillAnyRow, standIns := [], harness := (true, "36e71969d7188ae2460322446bbe5919798d147b5f9ed7c2097b8652e4b81bc0"), looks := false }, kinds := [], alts := [], laidByText := true, laidKinds := [.funcs], laidTests := true, laidLooks := .later }
def FillAnyCardSaid : Prop := Claim7.holds Tryd.pinned (.plain (OpenSpec.ofChange fillAnySpec)) fillAnyCard

/-- THE TIED CARD OF 'luciferlaw05.FillEven'. -/
def fillEvenCard : Claim7 := { stood := { row := fillEvenRow, standIns := [], harness := (true, "36e71969d7188ae2460322446bbe5919798d147b5f9ed7c2097b8652e4b81bc0"), looks := false }, kinds := [], alts := [], laidByText := true, laidKinds := [.funcs], laidTests := true, laidLooks := .later }
def FillEvenCardSaid : Prop := Claim7.holds Tryd.pinned (.plain (OpenSpec.ofChange fillEvenSpec)) fillEvenCard

/-- THE TIED CARD OF 'luciferlaw05.FillLess'. -/
def fillLessCard : Claim7 := { stood := { row := fillLessRow, standIns := [], harness := (true, "36e71969d7188ae2460322446bbe5919798d147b5f9ed7c2097b8652e4b81bc0"), looks := false }, kinds := [], alts := [], laidByText := true, laidKinds := [.funcs], laidTests := true, laidLooks := .later }
def FillLessCardSaid : Prop := Claim7.holds Tryd.pinned (.plain (OpenSpec.ofChange fillLessSpec)) fillLessCard

/-- THE TIED CARD OF 'luciferlaw05.FillSums'. -/
def fillSumsCard : Claim7 := { stood := { row := fillSumsRow, standIns := [], harness := (true, "36e71969d7188ae2460322446bbe5919798d147b5f9ed7c2097b8652e4b81bc0"), looks := false }, kinds := [], alts := [], laidByText := true, laidKinds := [.funcs], laidTests := true, laidLooks := .later }
def FillSumsCardSaid : Prop := Claim7.holds Tryd.pinned (.plain (OpenSpec.ofChange fillSumsSpec)) fillSumsCard

/-- THE TIED CARD OF 'luciferlaw05.FillAsk'. -/
def fillAskCard : Claim7 := { stood := { row := fillAskRow, standIns := [], harness := (true, "36e71969d7188ae2460322446bbe5919798d147b5f9ed7c2097b8652e4b81bc0"), looks := false }, kinds := [], alts := [], laidByText := true, laidKinds := [.funcs], laidTests := true, laidLooks := .later }
def FillAskCardSaid : Prop := Claim7.holds Tryd.pinned (.plain (OpenSpec.ofChange fillAskSpec)) fillAskCard

/-- THE TIED CARD OF 'luciferlaw05.FillKnown'. -/
def fillKnownCard : Claim7 := { stood := { row := fillKnownRow, standIns := [], harness := (true, "36e71969d7188ae2460322446bbe5919798d147b5f9ed7c2097b8652e4b81bc0"), looks := false }, kinds := [], alts := [], laidByText := true, laidKinds := [.funcs], laidTests := true, laidLooks := .later }
def FillKnownCardSaid : Prop := Claim7.holds Tryd.pinned (.plain (OpenSpec.ofChange fillKnownSpec)) fillKnownCard

/-- THE SECOND FORM's CARD OF 'luciferlaw05.FillKinds'. -/
def fillKindsUptoCard : Claim7 := { stood := { row := fillKindsUptoRow, standIns := [], harness := (true, "36e71969d7188ae2460322446bbe5919798d147b5f9ed7c2097b8652e4b81bc0"), looks := false }, kinds := [], alts := [], laidByText := true, laidKinds := [.funcs], laidTests := true, laidLooks := .later }
def FillKindsUptoCardSaid : Prop := Claim7.holds Tryd.pinned (.plain (OpenSpec.upto fillKindsSpec)) fillKindsUptoCard

/-- THE SECOND FORM's CARD OF 'luciferlaw05.FillPlans'. -/
def fillPlansUptoCard : Claim7 := { stood := { row := fillPlansUptoRow, standIns := [], harness := (true, "36e71969d7188ae2460322446bbe5919798d147b5f9ed7c2097b8652e4b81bc0"), looks := false }, kinds := [], alts := [], laidByText := true, laidKinds := [.funcs], laidTests := true, laidLooks := .later }
def FillPlansUptoCardSaid : Prop := Claim7.holds Tryd.pinned (.plain (OpenSpec.upto fillPlansSpec)) fillPlansUptoCard

/-- THE SECOND FORM's CARD OF 'luciferlaw05.FillBests'. -/
def fillBestsUptoCard : Claim7 := { stood := { row := fillBestsUptoRow, standIns := [], harness := (true, "36e71969d7188ae2460322446bbe5919798d147b5f9ed7c2097b8652e4b81bc0"), looks := false }, kinds := [], alts := [], laidByText := true, laidKinds := [.funcs], laidTests := true, laidLooks := .later }
def FillBestsUptoCardSaid : Prop := Claim7.holds Tryd.pinned (.plain (OpenSpec.upto fillBestsSpec)) fillBestsUptoCard

/-- THE SECOND FORM's CARD OF 'luciferlaw05.FillTrue'. -/
def fillTrueUptoCard : Claim7 := { stood := { row := fillTrueUptoRow, standIns := [], harness := (true, "36e71969d7188ae2460322446bbe5919798d147b5f9ed7c2097b8652e4b81bc0"), looks := false }, kinds := [], alts := [], laidByText := true, laidKinds := [.funcs], laidTests := true, laidLooks := .later }
def FillTrueUptoCardSaid : Prop := Claim7.holds Tryd.pinned (.plain (OpenSpec.upto fillTrueSpec)) fillTrueUptoCard

/-- THE SECOND FORM's CARD OF 'luciferlaw05.FillFewest'. -/
def fillFewestUptoCard : Claim7 := { stood := { row := fillFewestUptoRow, standIns := [], harness := (true, "36e71969d7188ae2460322446bbe5919798d147b5f9ed7c2097b8652e4b81bc0"), looks := false }, kinds := [], alts := [], laidByText := true, laidKinds := [.funcs], laidTests := true, laidLooks := .later }
def FillFewestUptoCardSaid : Prop := Claim7.holds Tryd.pinned (.plain (OpenSpec.upto fillFewestSpec)) fillFewestUptoCard

/-- THE SECOND FORM's CARD OF 'luciferlaw05.FillMost'. -/
def fillMostUptoCard : Claim7 := { stood := { row := fillMostUptoRow, standIns := [], harness := (true, "36e71969d7188ae2460322446bbe5919798d147b5f9ed7c2097b8652e4b81bc0"), looks := false }, kinds := [], alts := [], laidByText := true, laidKinds := [.funcs], laidTests := true, laidLooks := .later }
def FillMostUptoCardSaid : Prop := Claim7.holds Tryd.pinned (.plain (OpenSpec.upto fillMostSpec)) fillMostUptoCard

/-- THE SECOND FORM's CARD OF 'luciferlaw05.FillAny'. -/
def fillAnyUptoCard : Claim7 := { stood := { row := fillAnyUptoRow, standIns := [], harness := (true, "36e71969d7188ae2460322446bbe5919798d147b5f9ed7c2097b8652e4b81bc0"), looks := false }, kinds := [], alts := [], laidByText := true, laidKinds := [.funcs], laidTests := true, laidLooks := .later }
def FillAnyUptoCardSaid : Prop := Claim7.holds Tryd.pinned (.plain (OpenSpec.upto fillAnySpec)) fillAnyUptoCard

/-- THE SECOND FORM's CARD OF 'luciferlaw05.FillEven'. -/
def fillEvenUptoCard : Claim7 := { stood := { row := fillEvenUptoRow, standIns := [], harness := (true, "36e71969d7188ae2460322446bbe5919798d147b5f9ed7c2097b8652e4b81bc0"), looks := false }, kinds := [], alts := [], laidByText := true, laidKinds := [.funcs], laidTests := true, laidLooks := .later }
def FillEvenUptoCardSaid : Prop := Claim7.holds Tryd.pinned (.plain (OpenSpec.upto fillEvenSpec)) fillEvenUptoCard

/-- THE SECOND FORM's CARD OF 'luciferlaw05.FillLess'. -/
def fillLessUptoCard : Claim7 := { stood := { row := fillLessUptoRow, standIns := [], harness := (true, "36e71969d7188ae2460322446bbe5919798d147b5f9ed7c2097b8652e4b81bc0"), looks := false }, kinds := [], alts := [], laidByText := true, laidKinds := [.funcs], laidTests := true, laidLooks := .later }
def FillLessUptoCardSaid : Prop := Claim7.holds Tryd.pinned (.plain (OpenSpec.upto fillLessSpec)) fillLessUptoCard

/-- THE SECOND FORM's CARD OF 'luciferlaw05.FillSums'. -/
def fillSumsUptoCard : Claim7 := { stood := { row := fillSumsUptoRow, standIns := [], harness := (true, "36e71969d7188ae2460322446bbe5919798d147b5f9ed7c2097b8652e4b81bc0"), looks := false }, kinds := [], alts := [], laidByText := true, laidKinds := [.funcs], laidTests := true, laidLooks := .later }
def FillSumsUptoCardSaid : Prop := Claim7.holds Tryd.pinned (.plain (OpenSpec.upto fillSumsSpec)) fillSumsUptoCard

/-- THE SECOND FORM's CARD OF 'luciferlaw05.FillAsk'. -/
def fillAskUptoCard : Claim7 := { stood := { row := fillAskUptoRow, standIns := [], harness := (true, "36e71969d7188ae2460322446bbe5919798d147b5f9ed7c2097b8652e4b81bc0"), looks := false }, kinds := [], alts := [], laidByText := true, laidKinds := [.funcs], laidTests := true, laidLooks := .later }
def FillAskUptoCardSaid : Prop := Claim7.holds Tryd.pinned (.plain (OpenSpec.upto fillAskSpec)) fillAskUptoCard

/-- THE SECOND FORM's CARD OF 'luciferlaw05.FillKnown'. -/
def fillKnownUptoCard : Claim7 := { stood := { row := fillKnownUptoRow, standIns := [], harness := (true, "36e71969d7188ae2460322446bbe5919798d147b5f9ed7c2097b8652e4b81bc0"), looks := false }, kinds := [], alts := [], laidByText := true, laidKinds := [.funcs], laidTests := true, laidLooks := .later }
def FillKnownUptoCardSaid : Prop := Claim7.holds Tryd.pinned (.plain (OpenSpec.upto fillKnownSpec)) fillKnownUptoCard
end Rows
end Go.Proofs.YtbbdbdamedaldaaDoor
