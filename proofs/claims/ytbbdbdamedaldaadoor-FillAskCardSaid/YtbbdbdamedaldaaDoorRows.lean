/-
  NARROWER THAN 'FOR EVERY INPUT', by the rows' own cells (each row's printed sentence says how): FillKinds: laid · FillPlans: laid · FillBests: laid · FillTrue: laid · FillFewest: laid · FillMost: laid · FillAny: laid · FillEven: laid · FillLess: laid · FillSums: laid · FillAsk: laid · FillKnown: laid.
  DERIVED. THE GIVEN ROWS OF THIS SEAT. 12 by the template 'for every input the law returns true; each argument reads behind the call as it read before'; 0 by the template 'total and deterministic' (their statements: YtbbdbdamedaldaaDoorTotals.lean).
  GIVEN WITH THE SEED: the statements are not yours to turn. If you find one false, say at which input.
  Laid BY PROGRAM, IN A SANDBOX (cutbox-rows.mjs): the forced cells as the released guide's own fill.sh prints them over the translation 44a2510bd7a8e686… (all of the seat's roots in one cut). By AI agents, Wed Nov 11 2026. No macro, syntax, notation, axiom, sorry.
-/
import Derived.Test.YtbbdbdamedaldaaDoorChecked
import GoSem.Claim
import GoSem.ClaimJoined
import GoSem.ClaimMapViews
import Derived.JoinedTies
import Derived.KernelRfl
namespace Go.Proofs.YtbbdbdamedaldaaDoor
/- THE CELL 'sum', in the pinned program and in every row, IS THE sha256 OF THE DUMP (.gsa) THAT YtbbdbdamedaldaaDoorProg.lean LOADS. Nothing in Lean hashes anything: it is a label: what it is worth is what the hold of that sum in a sandbox is worth. -/
noncomputable def Tryd.pinned : Pinned := { name := "ytbbdbdamedaldaadoor", sum := "44a2510bd7a8e686fab551eb83d585a644d683fbe3e5dde21470f6edbd4fdb80", checked := Tryd.checked }
namespace Rows
def none {H : Type} : Left H := { results := [], args := [] }

/- WHAT THE LISTED PACKAGE-LEVEL VARIABLES READ AS WHEN THE CALL BEGINS. Each datum BY PROGRAM (the guide's laid-datum.mjs) off the statement by which the dump's own 'gosem.cut.vars' lays the variable. In a bare row this is a premise. The card (YtbbdbdamedaldaaDoorCards.lean) ties it to the program's text. -/
def laid_lucifer_fill_ends {H : Type} : DataW H := .iface "func table" (.agg [.iface "func" (.lit (.string [40, 108, 117, 99, 105, 102, 101, 114, 47, 102, 105, 108, 108, 46, 98, 111, 111, 107, 41, 46, 108, 111, 119])), .iface "func" (.lit (.string [40, 108, 117, 99, 105, 102, 101, 114, 47, 102, 105, 108, 108, 46, 98, 111, 111, 107, 41, 46, 104, 105, 103, 104]))])

/-- 'luciferlaw05.FillKinds': WHATEVER THE INPUT: true; the input reads as it did. -/
def fillKindsSpec : ChangeSpec := { name := "fillKinds", fn := fun _ => fun
  | [d1, d2] => { results := [.lit (.bool true)], args := [d1, d2] }
  | _ => none }
def fillKindsRow : OpenClaim := { program := "ytbbdbdamedaldaadoor", sum := "44a2510bd7a8e686fab551eb83d585a644d683fbe3e5dde21470f6edbd4fdb80", func := "lucifer/luciferlaw05.FillKinds", spec := "fillKinds", unfollowed := true, recurses := true, named := ["lucifer/fill.ends"], plainKeys := false, apart := false, laid := [("lucifer/fill.ends", laid_lucifer_fill_ends)] }
def FillKindsSaid : Prop := fillKindsRow.holds Tryd.pinned (OpenSpec.ofChange fillKindsSpec)

/-- ITS FALSE NEIGHBOUR: 'it returns false'. Refute it at one input. -/
def fillKindsWrong : ChangeSpec := { name := "fillKinds", fn := fun _ => fun
  | [d1, d2] => { results := [.lit (.bool false)], args := [d1, d2] }
  | _ => none }
def FillKindsWrongFalsely : Prop := fillKindsRow.holds Tryd.pinned (OpenSpec.ofChange fillKindsWrong)

/-- 'luciferlaw05.FillPlans': WHATEVER THE INPUT: true; the input reads as it did. -/
def fillPlansSpec : ChangeSpec := { name := "fillPlans", fn := fun _ => fun
  | [d1, d2] => { results := [.lit (.bool true)], args := [d1, d2] }
  | _ => none }
def fillPlansRow : OpenClaim := { program := "ytbbdbdamedaldaadoor", sum := "44a2510bd7a8e686fab551eb83d585a644d683fbe3e5dde21470f6edbd4fdb80", func := "lucifer/luciferlaw05.FillPlans", spec := "fillPlans", unfollowed := true, recurses := true, named := ["lucifer/fill.ends"], plainKeys := false, apart := false, laid := [("lucifer/fill.ends", laid_lucifer_fill_ends)] }
def FillPlansSaid : Prop := fillPlansRow.holds Tryd.pinned (OpenSpec.ofChange fillPlansSpec)

/-- ITS FALSE NEIGHBOUR: 'it returns false'. Refute it at one input. -/
def fillPlansWrong : ChangeSpec := { name := "fillPlans", fn := fun _ => fun
  | [d1, d2] => { results := [.lit (.bool false)], args := [d1, d2] }
  | _ => none }
def FillPlansWrongFalsely : Prop := fillPlansRow.holds Tryd.pinned (OpenSpec.ofChange fillPlansWrong)

/-- 'luciferlaw05.FillBests': WHATEVER THE INPUT: true; the input reads as it did. -/
def fillBestsSpec : ChangeSpec := { name := "fillBests", fn := fun _ => fun
  | [d] => { results := [.lit (.bool true)], args := [d] }
  | _ => none }
def fillBestsRow : OpenClaim := { program := "ytbbdbdamedaldaadoor", sum := "44a2510bd7a8e686fab551eb83d585a644d683fbe3e5dde21470f6edbd4fdb80", func := "lucifer/luciferlaw05.FillBests", spec := "fillBests", unfollowed := true, recurses := true, named := ["lucifer/fill.ends"], plainKeys := false, apart := false, laid := [("lucifer/fill.ends", laid_lucifer_fill_ends)] }
def FillBestsSaid : Prop := fillBestsRow.holds Tryd.pinned (OpenSpec.ofChange fillBestsSpec)

/-- ITS FALSE NEIGHBOUR: 'it returns false'. Refute it at one input. -/
def fillBestsWrong : ChangeSpec := { name := "fillBests", fn := fun _ => fun
  | [d] => { results := [.lit (.bool false)], args := [d] }
  | _ => none }
def FillBestsWrongFalsely : Prop := fillBestsRow.holds Tryd.pinned (OpenSpec.ofChange fillBestsWrong)

/-- 'luciferlaw05.FillTrue': WHATEVER THE INPUT: true; the input reads as it did. -/
def fillTrueSpec : ChangeSpec := { name := "fillTrue", fn := fun _ => fun
  | [d1, d2, d3] => { results := [.lit (.bool true)], args := [d1, d2, d3] }
  | _ => none }
def fillTrueRow : OpenClaim := { program := "ytbbdbdamedaldaadoor", sum := "44a2510bd7a8e686fab551eb83d585a644d683fbe3e5dde21470f6edbd4fdb80", func := "lucifer/luciferlaw05.FillTrue", spec := "fillTrue", unfollowed := true, recurses := true, named := ["lucifer/fill.ends"], plainKeys := false, apart := false, laid := [("lucifer/fill.ends", laid_lucifer_fill_ends)] }
def FillTrueSaid : Prop := fillTrueRow.holds Tryd.pinned (OpenSpec.ofChange fillTrueSpec)

/-- ITS FALSE NEIGHBOUR: 'it returns false'. Refute it at one input. -/
def fillTrueWrong : ChangeSpec := { name := "fillTrue", fn := fun _ => fun
  | [d1, d2, d3] => { results := [.lit (.bool false)], args := [d1, d2, d3] }
  | _ => none }
def FillTrueWrongFalsely : Prop := fillTrueRow.holds Tryd.pinned (OpenSpec.ofChange fillTrueWrong)

/-- 'luciferlaw05.FillFewest': WHATEVER THE INPUT: true; the input reads as it did. -/
def fillFewestSpec : ChangeSpec := { name := "fillFewest", fn := fun _ => fun
  | [d1, d2] => { results := [.lit (.bool true)], args := [d1, d2] }
  | _ => none }
def fillFewestRow : OpenClaim := { program := "ytbbdbdamedaldaadoor", sum := "44a2510bd7a8e686fab551eb83d585a644d683fbe3e5dde21470f6edbd4fdb80", func := "lucifer/luciferlaw05.FillFewest", spec := "fillFewest", unfollowed := true, recurses := true, named := ["lucifer/fill.ends"], plainKeys := false, apart := false, laid := [("lucifer/fill.ends", laid_lucifer_fill_ends)] }
def FillFewestSaid : Prop := fillFewestRow.holds Tryd.pinned (OpenSpec.ofChange fillFewestSpec)

/-- ITS FALSE NEIGHBOUR: 'it returns false'. Refute it at one input. -/
def fillFewestWrong : ChangeSpec := { name := "fillFewest", fn := fun _ => fun
  | [d1, d2] => { results := [.lit (.bool false)], args := [d1, d2] }
  | _ => none }
def FillFewestWrongFalsely : Prop := fillFewestRow.holds Tryd.pinned (OpenSpec.ofChange fillFewestWrong)

/-- 'luciferlaw05.FillMost': WHATEVER THE INPUT: true; the input reads as it did. -/
def fillMostSpec : ChangeSpec := { name := "fillMost", fn := fun _ => fun
  | [d] => { results := [.lit (.bool true)], args := [d] }
  | _ => none }
def fillMostRow : OpenClaim := { program := "ytbbdbdamedaldaadoor", sum := "44a2510bd7a8e686fab551eb83d585a644d683fbe3e5dde21470f6edbd4fdb80", func := "lucifer/luciferlaw05.FillMost", spec := "fillMost", unfollowed := true, recurses := true, named := ["lucifer/fill.ends"], plainKeys := false, apart := false, laid := [("lucifer/fill.ends", laid_lucifer_fill_ends)] }
def FillMostSaid : Prop := fillMostRow.holds Tryd.pinned (OpenSpec.ofChange fillMostSpec)

/-- ITS FALSE NEIGHBOUR: 'it returns false'. Refute it at one input. -/
def fillMostWrong : ChangeSpec := { name := "fillMost", fn := fun _ => fun
  | [d] => { results := [.lit (.bool false)], args := [d] }
  | _ => none }
def FillMostWrongFalsely : Prop := fillMostRow.holds Tryd.pinned (OpenSpec.ofChange fillMostWrong)

/-- 'luciferlaw05.FillAny': WHATEVER THE INPUT: true; the input reads as it did. -/
def fillAnySpec : ChangeSpec := { name := "fillAny", fn := fun _ => fun
  | [d1, d2, d3, d4] => { results := [.lit (.bool true)], args := [d1, d2, d3, d4] }
  | _ => none }
def fillAnyRow : OpenClaim := { program := "ytbbdbdamedaldaadoor", sum := "44a2510bd7a8e686fab551eb83d585a644d683fbe3e5dde21470f6edbd4fdb80", func := "lucifer/luciferlaw05.FillAny", spec := "fillAny", unfollowed := true, recurses := true, named := ["lucifer/fill.ends"], plainKeys := false, apart := false, laid := [("lucifer/fill.ends", laid_lucifer_fill_ends)] }
def FillAnySaid : Prop := fillAnyRow.holds Tryd.pinned (OpenSpec.ofChange fillAnySpec)

/-- ITS FALSE NEIGHBOUR: 'it returns false'. Refute it at one input. -/
def fillAnyWrong : ChangeSpec := { name := "fillAny", fn := fun _ => fun
  | [d1, d2, d3, d4] => { results := [.lit (.bool false)], args := [d1, d2, d3, d4] }
  | _ => none }
def FillAnyWrongFalsely : Prop := fillAnyRow.holds Tryd.pinned (OpenSpec.ofChange fillAnyWrong)

/-- 'luciferlaw05.FillEven': WHATEVER THE INPUT: true; the input reads as it did. -/
def fillEvenSpec : ChangeSpec := { name := "fillEven", fn := fun _ => fun
  | [d1, d2] => { results := [.lit (.bool true)], args := [d1, d2] }
  | _ => none }
def fillEvenRow : OpenClaim := { program := "ytbbdbdamedaldaadoor", sum := "44a2510bd7a8e686fab551eb83d585a644d683fbe3e5dde21470f6edbd4fdb80", func := "lucifer/luciferlaw05.FillEven", spec := "fillEven", unfollowed := true, recurses := true, named := ["lucifer/fill.ends"], plainKeys := false, apart := false, laid := [("lucifer/fill.ends", laid_lucifer_fill_ends)] }
def FillEvenSaid : Prop := fillEvenRow.holds Tryd.pinned (OpenSpec.ofChange fillEvenSpec)

/-- ITS FALSE NEIGHBOUR: 'it returns false'. Refute it at one input. -/
def fillEvenWrong : ChangeSpec := { name := "fillEven", fn := fun _ => fun
  | [d1, d2] => { results := [.lit (.bool false)], args := [d1, d2] }
  | _ => none }
def FillEvenWrongFalsely : Prop := fillEvenRow.holds Tryd.pinned (OpenSpec.ofChange fillEvenWrong)

/-- 'luciferlaw05.FillLess': WHATEVER THE INPUT: true; the input reads as it did. -/
def fillLessSpec : ChangeSpec := { name := "fillLess", fn := fun _ => fun
  | [d1, d2] => { results := [.lit (.bool true)], args := [d1, d2] }
  | _ => none }
def fillLessRow : OpenClaim := { program := "ytbbdbdamedaldaadoor", sum := "44a2510bd7a8e686fab551eb83d585a644d683fbe3e5dde21470f6edbd4fdb80", func := "lucifer/luciferlaw05.FillLess", spec := "fillLess", unfollowed := true, recurses := true, named := ["lucifer/fill.ends"], plainKeys := false, apart := false, laid := [("lucifer/fill.ends", laid_lucifer_fill_ends)] }
def FillLessSaid : Prop := fillLessRow.holds Tryd.pinned (OpenSpec.ofChange fillLessSpec)

/-- ITS FALSE NEIGHBOUR: 'it returns false'. Refute it at one input. -/
def fillLessWrong : ChangeSpec := { name := "fillLess", fn := fun _ => fun
  | [d1, d2] => { results := [.lit (.bool false)], args := [d1, d2] }
  | _ => none }
def FillLessWrongFalsely : Prop := fillLessRow.holds Tryd.pinned (OpenSpec.ofChange fillLessWrong)

/-- 'luciferlaw05.FillSums': WHATEVER THE INPUT: true; the input reads as it did. -/
def fillSumsSpec : ChangeSpec := { name := "fillSums", fn := fun _ => fun
  | [d1, d2, d3] => { results := [.lit (.bool true)], args := [d1, d2, d3] }
  | _ => none }
def fillSumsRow : OpenClaim := { program := "ytbbdbdamedaldaadoor", sum := "44a2510bd7a8e686fab551eb83d585a644d683fbe3e5dde21470f6edbd4fdb80", func := "lucifer/luciferlaw05.FillSums", spec := "fillSums", unfollowed := true, recurses := true, named := ["lucifer/fill.ends"], plainKeys := false, apart := false, laid := [("lucifer/fill.ends", laid_lucifer_fill_ends)] }
def FillSumsSaid : Prop := fillSumsRow.holds Tryd.pinned (OpenSpec.ofChange fillSumsSpec)

/-- ITS FALSE NEIGHBOUR: 'it returns false'. Refute it at one input. -/
def fillSumsWrong : ChangeSpec := { name := "fillSums", fn := fun _ => fun
  | [d1, d2, d3] => { results := [.lit (.bool false)], args := [d1, d2, d3] }
  | _ => none }
def FillSumsWrongFalsely : Prop := fillSumsRow.holds Tryd.pinned (OpenSpec.ofChange fillSumsWrong)

/-- 'luciferlaw05.FillAsk': WHATEVER THE INPUT: true; the input reads as it did. -/
def fillAskSpec : ChangeSpec := { name := "fillAsk", fn := fun _ => fun
  | [d1, d2] => { results := [.lit (.bool true)], args := [d1, d2] }
  | _ => none }
def fillAskRow : OpenClaim := { program := "ytbbdbdamedaldaadoor", sum := "44a2510bd7a8e686fab551eb83d585a644d683fbe3e5dde21470f6edbd4fdb80", func := "lucifer/luciferlaw05.FillAsk", spec := "fillAsk", unfollowed := true, recurses := true, named := ["lucifer/fill.ends"], plainKeys := false, apart := false, laid := [("lucifer/fill.ends", laid_lucifer_fill_ends)] }
def FillAskSaid : Prop := fillAskRow.holds Tryd.pinned (OpenSpec.ofChange fillAskSpec)

/-- ITS FALSE NEIGHBOUR: 'it returns false'. Refute it at one input. -/
def fillAskWrong : ChangeSpec := { name := "fillAsk", fn := fun _ => fun
  | [d1, d2] => { results := [.lit (.bool false)], args := [d1, d2] }
  | _ => none }
def FillAskWrongFalsely : Prop := fillAskRow.holds Tryd.pinned (OpenSpec.ofChange fillAskWrong)

/-- 'luciferlaw05.FillKnown': WHATEVER THE INPUT: true; the input reads as it did. -/
def fillKnownSpec : ChangeSpec := { name := "fillKnown", fn := fun _ => fun
  | [] => { results := [.lit (.bool true)], args := [] }
  | _ => none }
def fillKnownRow : OpenClaim := { program := "ytbbdbdamedaldaadoor", sum := "44a2510bd7a8e686fab551eb83d585a644d683fbe3e5dde21470f6edbd4fdb80", func := "lucifer/luciferlaw05.FillKnown", spec := "fillKnown", unfollowed := true, recurses := true, named := ["lucifer/fill.ends"], plainKeys := false, apart := false, laid := [("lucifer/fill.ends", laid_lucifer_fill_ends)] }
def FillKnownSaid : Prop := fillKnownRow.holds Tryd.pinned (OpenSpec.ofChange fillKnownSpec)

/-- ITS FALSE NEIGHBOUR: 'it returns false'. Refute it at one input. -/
def fillKnownWrong : ChangeSpec := { name := "fillKnown", fn := fun _ => fun
  | [] => { results := [.lit (.bool false)], args := [] }
  | _ => none }
def FillKnownWrongFalsely : Prop := fillKnownRow.holds Tryd.pinned (OpenSpec.ofChange fillKnownWrong)

/- THE SECOND FORM. 'bulk': how many values and letters a reading holds, each counted each time it is reached (what is shared counts as often as it is met; a slice's spare places count too). A statement '..UptoSaid' is the law's where the arguments, and the package variables that the reading takes, are together of bulk at most 1048576: NARROWER than '..Said'. Prove '..Said' where nothing that the law and all that it calls make is longer than what came in: it says more and counts as full. Else prove '..UptoSaid'. A law counts once. -/
mutual
def uptoBulk {H : Type} : DataW H → Nat
  | .lit (.string bytes) => bytes.length + 1
  | .lit _ => 1
  | .nil => 1
  | .ptr d => uptoBulk d + 1
  | .slice elems spare => uptoBulkAll elems + uptoBulkAll spare + 1
  | .agg parts => uptoBulkAll parts + 1
  | .iface _ d => uptoBulk d + 1
  | .map entries => uptoBulkEntries entries + 1
  | .held _ => 1
def uptoBulkAll {H : Type} : List (DataW H) → Nat
  | [] => 0
  | d :: r => uptoBulk d + uptoBulkAll r
def uptoBulkEntries {H : Type} : List (Lit × DataW H) → Nat
  | [] => 0
  | x :: r => uptoBulkEntry x + uptoBulkEntries r
def uptoBulkEntry {H : Type} : Lit × DataW H → Nat
  | (.string bytes, d) => bytes.length + uptoBulk d + 1
  | (_, d) => uptoBulk d + 1
 end
def uptoSmall : (H : Type) → List (DataW H) → Bool := fun _ ds => decide (uptoBulkAll ds ≤ 1048576)
def OpenSpec.upto (s : _root_.Go.ChangeSpec) : _root_.Go.OpenSpec := { _root_.Go.OpenSpec.ofChange s with cond := some uptoSmall }

/-- 'luciferlaw05.FillKinds', WHERE WHAT IT READS IS OF BULK AT MOST 1048576: true; the input reads as it did. -/
def fillKindsUptoRow : OpenClaim := { program := "ytbbdbdamedaldaadoor", sum := "44a2510bd7a8e686fab551eb83d585a644d683fbe3e5dde21470f6edbd4fdb80", func := "lucifer/luciferlaw05.FillKinds", spec := "fillKinds", unfollowed := true, recurses := true, named := ["lucifer/fill.ends"], plainKeys := false, apart := false, laid := [("lucifer/fill.ends", laid_lucifer_fill_ends)], narrowed := true }
def FillKindsUptoSaid : Prop := fillKindsUptoRow.holds Tryd.pinned (OpenSpec.upto fillKindsSpec)

/-- 'luciferlaw05.FillPlans', WHERE WHAT IT READS IS OF BULK AT MOST 1048576: true; the input reads as it did. -/
def fillPlansUptoRow : OpenClaim := { program := "ytbbdbdamedaldaadoor", sum := "44a2510bd7a8e686fab551eb83d585a644d683fbe3e5dde21470f6edbd4fdb80", func := "lucifer/luciferlaw05.FillPlans", spec := "fillPlans", unfollowed := true, recurses := true, named := ["lucifer/fill.ends"], plainKeys := false, apart := false, laid := [("lucifer/fill.ends", laid_lucifer_fill_ends)], narrowed := true }
def FillPlansUptoSaid : Prop := fillPlansUptoRow.holds Tryd.pinned (OpenSpec.upto fillPlansSpec)

/-- 'luciferlaw05.FillBests', WHERE WHAT IT READS IS OF BULK AT MOST 1048576: true; the input reads as it did. -/
def fillBestsUptoRow : OpenClaim := { program := "ytbbdbdamedaldaadoor", sum := "44a2510bd7a8e686fab551eb83d585a644d683fbe3e5dde21470f6edbd4fdb80", func := "lucifer/luciferlaw05.FillBests", spec := "fillBests", unfollowed := true, recurses := true, named := ["lucifer/fill.ends"], plainKeys := false, apart := false, laid := [("lucifer/fill.ends", laid_lucifer_fill_ends)], narrowed := true }
def FillBestsUptoSaid : Prop := fillBestsUptoRow.holds Tryd.pinned (OpenSpec.upto fillBestsSpec)

/-- 'luciferlaw05.FillTrue', WHERE WHAT IT READS IS OF BULK AT MOST 1048576: true; the input reads as it did. -/
def fillTrueUptoRow : OpenClaim := { program := "ytbbdbdamedaldaadoor", sum := "44a2510bd7a8e686fab551eb83d585a644d683fbe3e5dde21470f6edbd4fdb80", func := "lucifer/luciferlaw05.FillTrue", spec := "fillTrue", unfollowed := true, recurses := true, named := ["lucifer/fill.ends"], plainKeys := false, apart := false, laid := [("lucifer/fill.ends", laid_lucifer_fill_ends)], narrowed := true }
def FillTrueUptoSaid : Prop := fillTrueUptoRow.holds Tryd.pinned (OpenSpec.upto fillTrueSpec)

/-- 'luciferlaw05.FillFewest', WHERE WHAT IT READS IS OF BULK AT MOST 1048576: true; the input reads as it did. -/
def fillFewestUptoRow : OpenClaim := { program := "ytbbdbdamedaldaadoor", sum := "44a2510bd7a8e686fab551eb83d585a644d683fbe3e5dde21470f6edbd4fdb80", func := "lucifer/luciferlaw05.FillFewest", spec := "fillFewest", unfollowed := true, recurses := true, named := ["lucifer/fill.ends"], plainKeys := false, apart := false, laid := [("lucifer/fill.ends", laid_lucifer_fill_ends)], narrowed := true }
def FillFewestUptoSaid : Prop := fillFewestUptoRow.holds Tryd.pinned (OpenSpec.upto fillFewestSpec)

/-- 'luciferlaw05.FillMost', WHERE WHAT IT READS IS OF BULK AT MOST 1048576: true; the input reads as it did. -/
def fillMostUptoRow : OpenClaim := { program := "ytbbdbdamedaldaadoor", sum := "44a2510bd7a8e686fab551eb83d585a644d683fbe3e5dde21470f6edbd4fdb80", func := "lucifer/luciferlaw05.FillMost", spec := "fillMost", unfollowed := true, recurses := true, named := ["lucifer/fill.ends"], plainKeys := false, apart := false, laid := [("lucifer/fill.ends", laid_lucifer_fill_ends)], narrowed := true }
def FillMostUptoSaid : Prop := fillMostUptoRow.holds Tryd.pinned (OpenSpec.upto fillMostSpec)

/-- 'luciferlaw05.FillAny', WHERE WHAT IT READS IS OF BULK AT MOST 1048576: true; the input reads as it did. -/
def fillAnyUptoRow : OpenClaim := { program := "ytbbdbdamedaldaadoor", sum := "44a2510bd7a8e686fab551eb83d585a644d683fbe3e5dde21470f6edbd4fdb80", func := "lucifer/luciferlaw05.FillAny", spec := "fillAny", unfollowed := true, recurses := true, named := ["lucifer/fill.ends"], plainKeys := false, apart := false, laid := [("lucifer/fill.ends", laid_lucifer_fill_ends)], narrowed := true }
def FillAnyUptoSaid : Prop := fillAnyUptoRow.holds Tryd.pinned (OpenSpec.upto fillAnySpec)

/-- 'luciferlaw05.FillEven', WHERE WHAT IT READS IS OF BULK AT MOST 1048576: true; the input reads as it did. -/
def fillEvenUptoRow : OpenClaim := { program := "ytbbdbdamedaldaadoor", sum := "44a2510bd7a8e686fab551eb83d585a644d683fbe3e5dde21470f6edbd4fdb80", func := "lucifer/luciferlaw05.FillEven", spec := "fillEven", unfollowed := true, recurses := true, named := ["lucifer/fill.ends"], plainKeys := false, apart := false, laid := [("lucifer/fill.ends", laid_lucifer_fill_ends)], narrowed := true }
def FillEvenUptoSaid : Prop := fillEvenUptoRow.holds Tryd.pinned (OpenSpec.upto fillEvenSpec)

/-- 'luciferlaw05.FillLess', WHERE WHAT IT READS IS OF BULK AT MOST 1048576: true; the input reads as it did. -/
def fillLessUptoRow : OpenClaim := { program := "ytbbdbdamedaldaadoor", sum := "44a2510bd7a8e686fab551eb83d585a644d683fbe3e5dde21470f6edbd4fdb80", func := "lucifer/luciferlaw05.FillLess", spec := "fillLess", unfollowed := true, recurses := true, named := ["lucifer/fill.ends"], plainKeys := false, apart := false, laid := [("lucifer/fill.ends", laid_lucifer_fill_ends)], narrowed := true }
def FillLessUptoSaid : Prop := fillLessUptoRow.holds Tryd.pinned (OpenSpec.upto fillLessSpec)

/-- 'luciferlaw05.FillSums', WHERE WHAT IT READS IS OF BULK AT MOST 1048576: true; the input reads as it did. -/
def fillSumsUptoRow : OpenClaim := { program := "ytbbdbdamedaldaadoor", sum := "44a2510bd7a8e686fab551eb83d585a644d683fbe3e5dde21470f6edbd4fdb80", func := "lucifer/luciferlaw05.FillSums", spec := "fillSums", unfollowed := true, recurses := true, named := ["lucifer/fill.ends"], plainKeys := false, apart := false, laid := [("lucifer/fill.ends", laid_lucifer_fill_ends)], narrowed := true }
def FillSumsUptoSaid : Prop := fillSumsUptoRow.holds Tryd.pinned (OpenSpec.upto fillSumsSpec)

/-- 'luciferlaw05.FillAsk', WHERE WHAT IT READS IS OF BULK AT MOST 1048576: true; the input reads as it did. -/
def fillAskUptoRow : OpenClaim := { program := "ytbbdbdamedaldaadoor", sum := "44a2510bd7a8e686fab551eb83d585a644d683fbe3e5dde21470f6edbd4fdb80", func := "lucifer/luciferlaw05.FillAsk", spec := "fillAsk", unfollowed := true, recurses := true, named := ["lucifer/fill.ends"], plainKeys := false, apart := false, laid := [("lucifer/fill.ends", laid_lucifer_fill_ends)], narrowed := true }
def FillAskUptoSaid : Prop := fillAskUptoRow.holds Tryd.pinned (OpenSpec.upto fillAskSpec)

/-- 'luciferlaw05.FillKnown', WHERE WHAT IT READS IS OF BULK AT MOST 1048576: true; the input reads as it did. -/
def fillKnownUptoRow : OpenClaim := { program := "ytbbdbdamedaldaadoor", sum := "44a2510bd7a8e686fab551eb83d585a644d683fbe3e5dde21470f6edbd4fdb80", func := "lucifer/luciferlaw05.FillKnown", spec := "fillKnown", unfollowed := true, recurses := true, named := ["lucifer/fill.ends"], plainKeys := false, apart := false, laid := [("lucifer/fill.ends", laid_lucifer_fill_ends)], narrowed := true }
def FillKnownUptoSaid : Prop := fillKnownUptoRow.holds Tryd.pinned (OpenSpec.upto fillKnownSpec)

end Rows
end Go.Proofs.YtbbdbdamedaldaaDoor
