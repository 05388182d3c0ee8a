/-
  DERIVED. GIVEN WITH THE SEED: THE CARDS: each row of YtgjdlloiiedpmaaLiftDoorRows.lean that lists a variable, with what it lists TIED to the program's text (the seventh form; the later family's looks); each row that meets fmt, with fmt's text TOLD by the authors' own Lean function (tested against real Go, not proved from fmt's source: count such statements apart). THE CARD IS WHAT COUNTS. Prove the row's statement (the work); the ties are given (YtgjdlloiiedpmaaLiftDoorTie.lean); close each card by the builder's one call (the guide's Derived/Test/ToyasCard.lean, 'card_holds'). Laid BY PROGRAM, IN A SANDBOX (cutbox-door.mjs). By AI agents, Wed Nov 11 2026. No macro, syntax, notation, axiom, sorry.
-/
import Derived.Test.YtgjdlloiiedpmaaLiftDoorRows
import GoSem.ClaimSeven
namespace Go.Proofs.YtgjdlloiiedpmaaLiftDoor
namespace Rows

/-- THE TIED CARD OF 'gleanerlaw5.CheckEach'. -/
def checkEachCard : Claim7 := { stood := { row := checkEachRow, standIns := [], harness := (true, "8a4fb594422cd1496fe7f917cca14313535d5470db29a2947c1ce538b5734d9a"), looks := true }, kinds := [], alts := [], laidByText := true, laidKinds := [.data, .handle, .pinned], laidTests := true, laidLooks := .later }
def CheckEachCardSaid : Prop := Claim7.holds Tryl.pinned (.plain (OpenSpec.ofChange checkEachSpec)) checkEachCard

/-- THE TIED CARD OF 'gleanerlaw5.CheckTall'. -/
def checkTallCard : Claim7 := { stood := { row := checkTallRow, standIns := [], harness := (true, "8a4fb594422cd1496fe7f917cca14313535d5470db29a2947c1ce538b5734d9a"), looks := true }, kinds := [], alts := [], laidByText := true, laidKinds := [.data, .handle, .pinned], laidTests := true, laidLooks := .later }
def CheckTallCardSaid : Prop := Claim7.holds Tryl.pinned (.plain (OpenSpec.ofChange checkTallSpec)) checkTallCard

/-- THE TIED CARD OF 'gleanerlaw5.CheckFirst'. -/
def checkFirstCard : Claim7 := { stood := { row := checkFirstRow, standIns := [], harness := (true, "8a4fb594422cd1496fe7f917cca14313535d5470db29a2947c1ce538b5734d9a"), looks := true }, kinds := [], alts := [], laidByText := true, laidKinds := [.data, .handle, .pinned], laidTests := true, laidLooks := .later }
def CheckFirstCardSaid : Prop := Claim7.holds Tryl.pinned (.plain (OpenSpec.ofChange checkFirstSpec)) checkFirstCard

/-- THE TIED CARD OF 'gleanerlaw5.CheckDepths'. -/
def checkDepthsCard : Claim7 := { stood := { row := checkDepthsRow, standIns := [], harness := (true, "8a4fb594422cd1496fe7f917cca14313535d5470db29a2947c1ce538b5734d9a"), looks := true }, kinds := [], alts := [], laidByText := true, laidKinds := [.data, .handle, .pinned], laidTests := true, laidLooks := .later }
def CheckDepthsCardSaid : Prop := Claim7.holds Tryl.pinned (.plain (OpenSpec.ofChange checkDepthsSpec)) checkDepthsCard

/-- THE TIED CARD OF 'gleanerlaw5.CheckMeets'. -/
def checkMeetsCard : Claim7 := { stood := { row := checkMeetsRow, standIns := [], harness := (true, "8a4fb594422cd1496fe7f917cca14313535d5470db29a2947c1ce538b5734d9a"), looks := true }, kinds := [], alts := [], laidByText := true, laidKinds := [.data, .handle, .pinned], laidTests := true, laidLooks := .later }
def CheckMeetsCardSaid : Prop := Claim7.holds Tryl.pinned (.plain (OpenSpec.ofChange checkMeetsSpec)) checkMeetsCard

/-- THE TIED CARD OF 'gleanerlaw5.CheckDead'. -/
def checkDeadCard : Claim7 := { stood := { row := checkDeadRow, standIns := [], harness := (true, "8a4fb594422cd1496fe7f917cca14313535d5470db29a2947c1ce538b5734d9a"), looks := true }, kinds := [], alts := [], laidByText := true, laidKinds := [.data, .handle, .pinned], laidTests := true, laidLooks := .later }
def CheckDeadCardSaid : Prop := Claim7.holds Tryl.pinned (.plain (OpenSpec.ofChange checkDeadSpec)) checkDeadCard

/-- THE SECOND FORM's CARD OF 'gleanerlaw5.CheckEach'. -/
def checkEachUptoCard : Claim7 := { stood := { row := checkEachUptoRow, standIns := [], harness := (true, "8a4fb594422cd1496fe7f917cca14313535d5470db29a2947c1ce538b5734d9a"), looks := true }, kinds := [], alts := [], laidByText := true, laidKinds := [.data, .handle, .pinned], laidTests := true, laidLooks := .later }
def CheckEachUptoCardSaid : Prop := Claim7.holds Tryl.pinned (.plain (OpenSpec.upto checkEachSpec)) checkEachUptoCard

/-- THE SECOND FORM's CARD OF 'gleanerlaw5.CheckTall'. -/
def checkTallUptoCard : Claim7 := { stood := { row := checkTallUptoRow, standIns := [], harness := (true, "8a4fb594422cd1496fe7f917cca14313535d5470db29a2947c1ce538b5734d9a"), looks := true }, kinds := [], alts := [], laidByText := true, laidKinds := [.data, .handle, .pinned], laidTests := true, laidLooks := .later }
def CheckTallUptoCardSaid : Prop := Claim7.holds Tryl.pinned (.plain (OpenSpec.upto checkTallSpec)) checkTallUptoCard

/-- THE SECOND FORM's CARD OF 'gleanerlaw5.CheckFirst'. -/
def checkFirstUptoCard : Claim7 := { stood := { row := checkFirstUptoRow, standIns := [], harness := (true, "8a4fb594422cd1496fe7f917cca14313535d5470db29a2947c1ce538b5734d9a"), looks := true }, kinds := [], alts := [], laidByText := true, laidKinds := [.data, .handle, .pinned], laidTests := true, laidLooks := .later }
def CheckFirstUptoCardSaid : Prop := Claim7.holds Tryl.pinned (.plain (OpenSpec.upto checkFirstSpec)) checkFirstUptoCard

/-- THE SECOND FORM's CARD OF 'gleanerlaw5.CheckDepths'. -/
def checkDepthsUptoCard : Claim7 := { stood := { row := checkDepthsUptoRow, standIns := [], harness := (true, "8a4fb594422cd1496fe7f917cca14313535d5470db29a2947c1ce538b5734d9a"), looks := true }, kinds := [], alts := [], laidByText := true, laidKinds := [.data, .handle, .pinned], laidTests := true, laidLooks := .later }
def CheckDepthsUptoCardSaid : Prop := Claim7.holds Tryl.pinned (.plain (OpenSpec.upto checkDepthsSpec)) checkDepthsUptoCard

/-- THE SECOND FORM's CARD OF 'gleanerlaw5.CheckMeets'. -/
def checkMeetsUptoCard : Claim7 := { stood := { row := checkMeetsUptoRow, standIns := [], harness := (true, "8a4fb594422cd1496fe7f917cca14313535d5470db29a2947c1ce538b5734d9a"), looks := true }, kinds := [], alts := [], laidByText := true, laidKinds := [.data, .handle, .pinned], laidTests := true, laidLooks := .later }
def CheckMeetsUptoCardSaid : Prop := Claim7.holds Tryl.pinned (.plain (OpenSpec.upto checkMeetsSpec)) checkMeetsUptoCard

/-- THE SECOND FORM's CARD OF 'gleanerlaw5.CheckDead'. -/
def checkDeadUptoCard : Claim7 := { stood := { row := checkDeadUptoRow, standIns := [], harness := (true, "8a4fb594422cd1496fe7f917cca14313535d5470db29a2947c1ce538b5734d9a"), looks := true }, kinds := [], alts := [], laidByText := true, laidKinds := [.data, .handle, .pinned], laidTests := true, laidLooks := .later }
def CheckDeadUptoCardSaid : Prop := Claim7.holds Tryl.pinned (.plain (OpenSpec.upto checkDeadSpec)) checkDeadUptoCard
end Rows
end Go.Proofs.YtgjdlloiiedpmaaLiftDoor
