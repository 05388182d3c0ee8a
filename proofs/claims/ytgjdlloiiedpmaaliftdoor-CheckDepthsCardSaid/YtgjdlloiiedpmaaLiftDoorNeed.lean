/- '(*checker).need': it gives up with what is wrong, or does nothing. No condition. -/
import Derived.Test.YtgjdlloiiedpmaaLiftDoorCode3
import Derived.RegionDies
namespace Go.Proofs.YtgjdlloiiedpmaaLiftDoor
open Go.RowKit

theorem need_yes (c : Value) (e : Int) (w : World) :
    Calls Tryl.prog 26 #[c, .bool true, .int .i64 e] w fun e w' => e = .returned (.tuple #[]) ∧ w = w' := by
  go_enter Tryl.func26, Tryl.ntmps26
  go_wp2
  go_end0
  exact ⟨rfl, rfl⟩

/-- What a panic with 'wrong' carries. -/
def wrongV (f i e : Int) : Value := .iface 51 (.agg #[.int .i64 f, .int .i64 i, .int .i64 e])
def gaveUp (f i e : Int) : Ending := .panicked [{ v := wrongV f i e, recovered := false }]

theorem need_no (cb : Nat) (f i e : Int) (w : World) (hf : w.cell? ⟨cb, 5, none⟩ = some (.int .i64 f)) (hi : w.cell? ⟨cb, 6, none⟩ = some (.int .i64 i)) :
    Calls Tryl.prog 26 #[.pointer (some ⟨cb, 0, none⟩), .bool false, .int .i64 e] w fun x w' => x = .panicked [{ v := wrongV f i e, recovered := false }] ∧ ∃ n, w' = w.drewN n := by
  go_enter Tryl.func26, Tryl.ntmps26
  go_wp2
  go_region_dies
  all_goals exact ⟨rfl, rfl, 1, rfl⟩
end Go.Proofs.YtgjdlloiiedpmaaLiftDoor
