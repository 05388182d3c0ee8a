/- The plain data of the law (jobs as Lean lists) and what memory must hold for a value to read as such. No condition. -/
import Derived.Test.YtgjdlloiiedpmaaLiftDoorChecked
import Derived.WalkKit
import Derived.WalkSpells
import Derived.WalkLawsBesides
import Derived.Deep.QuietTactic
import Derived.BigQuiet
import Derived.Lib.Hide
namespace Go.Proofs.YtgjdlloiiedpmaaLiftDoor
open Go.RowKit

/-- An instruction, a function, a job: plain data. -/
structure SIns where
  op : Int
  n : Int
structure SFunc where
  name : ByteArray
  args : Int
  locals : Int
  code : List SIns
structure SJob where
  funcs : List SFunc
  main : Int
  args : List Int
  fuel : Int
  tasks : Int

/-- A slice value of n elements, whose cells (however many an element has) are cs. -/
structure RowAt (w : World) (v : Value) (n : Nat) (cs : List Value) : Prop where
  ex : ∃ ao cap, v = .slice ao n cap ∧ n ≤ cap ∧ cap ≤ 9223372036854775807 ∧ (cs ≠ [] → ∃ b o, ao = some ⟨b, o, none⟩ ∧ ∀ j x, cs[j]? = some x → w.cell? ⟨b, o + j, none⟩ = some x)

def SIns.cells (x : SIns) : List Value := [.int .i64 x.op, .int .i64 x.n]
def ints (l : List Int) : List Value := l.map (Value.int .i64)
end Go.Proofs.YtgjdlloiiedpmaaLiftDoor
