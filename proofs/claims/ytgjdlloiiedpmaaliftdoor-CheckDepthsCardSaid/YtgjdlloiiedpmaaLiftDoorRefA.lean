/- The reference's smaller functions: an instruction's name, 'checkIns', 'Big'. No condition. -/
import Derived.Test.YtgjdlloiiedpmaaLiftDoorSame
namespace Go.Proofs.YtgjdlloiiedpmaaLiftDoor
open Go.RowKit

set_option maxHeartbeats 2000000 in
theorem rname1_any (op : Int) (w : World) :
    Calls Tryl.prog 53 #[.int .i64 op] w fun e w' => NameS op e ∧ Kp No w w' := by
  rcases op_cases op with h | h | rfl | rfl | rfl | rfl | rfl | rfl | rfl | rfl | rfl | rfl | rfl | rfl | rfl | rfl | rfl | rfl | rfl | rfl | rfl
  · have d1 : decide (op < 1) = true := decide_eq_true h
    go_enter Tryl.func53, Tryl.ntmps53
    go_wp2
    go_ret
    exact ⟨⟨_, rfl, by simp [isOp]; omega⟩, kp_al _ _⟩
  · have d1 : decide (op < 1) = false := decide_eq_false (by omega)
    have d2 : decide (20 ≤ op) = true := decide_eq_true (by omega)
    go_enter Tryl.func53, Tryl.ntmps53
    go_wp2
    go_ret
    exact ⟨⟨_, rfl, by simp [isOp]; omega⟩, kp_al _ _⟩
  all_goals
    go_enter Tryl.func53, Tryl.ntmps53
    go_wp2
    go_ret
    exact ⟨⟨_, rfl, by decide +kernel⟩, kp_al _ _⟩
end Go.Proofs.YtgjdlloiiedpmaaLiftDoor
