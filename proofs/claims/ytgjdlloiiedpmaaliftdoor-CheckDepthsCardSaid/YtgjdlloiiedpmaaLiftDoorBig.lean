/- 'Big': it answers. No condition. -/
import Derived.Test.YtgjdlloiiedpmaaLiftDoorRefA
namespace Go.Proofs.YtgjdlloiiedpmaaLiftDoor
open Go.RowKit

set_option maxRecDepth 100000 in
set_option maxHeartbeats 4000000 in
theorem big_any (fv av : Value) (J : SJob) (w : World) (hJ : JobAt w.heap.size w fv av J) :
    Calls Tryl.prog 13 #[.agg #[fv, .int .i64 J.main, av, .int .i64 J.fuel, .int .i64 J.tasks]] w fun e w' => ∃ b, e = .returned (.bool b) ∧ Kp No w w' := by
  obtain ⟨ao, cap, rfl, f1, f2, f3⟩ := hJ.fu.ex
  obtain ⟨aao, acap, rfl, a1, a2, a3⟩ := hJ.ar.ex
  clear a3
  by_cases h60 : 60 < J.funcs.length
  · have d1 : decide (60 < (J.funcs.length : Int)) = true := decide_eq_true (by omega)
    clear h60 f3
    go_enter Tryl.func13, Tryl.ntmps13
    go_wp2
    go_ret
    exact ⟨_, rfl, kp_al _ _⟩
  have d1 : decide (60 < (J.funcs.length : Int)) = false := decide_eq_false (by omega)
  by_cases h100 : 100 < J.args.length
  · have d2 : decide (100 < (J.args.length : Int)) = true := decide_eq_true (by omega)
    clear h60 h100 f3
    go_enter Tryl.func13, Tryl.ntmps13
    go_wp2
    go_ret
    exact ⟨_, rfl, kp_al _ _⟩
  have d2 : decide (100 < (J.args.length : Int)) = false := decide_eq_false (by omega)
  have hL : J.funcs.length ≤ 60 := by omega
  clear h60 h100
  go_enter Tryl.func13, Tryl.ntmps13
  go_wp2
  obtain ⟨W0, hW0⟩ : ∃ W0, W0 = w.alloc (.cells #[.slice ao J.funcs.length cap, .int .i64 J.main, .slice aao J.args.length acap, .int .i64 J.fuel, .int .i64 J.tasks] 26) := ⟨_, rfl⟩
  have hb0 : W0.heap[w.heap.size]? = some (.cells #[.slice ao J.funcs.length cap, .int .i64 J.main, .slice aao J.args.length acap, .int .i64 J.fuel, .int .i64 J.tasks] 26 (0, 0)) := hW0 ▸ blk_new _ _ _ rfl
  have k0 : Kp No w W0 := hW0 ▸ kp_al _ _
  rw [← hW0]
  clear hW0 hJ
  go_loopw [3, 4] (fun nv i wr => ∃ (k : Nat) (x : Int), k ≤ J.funcs.length ∧ i = .int .i64 k ∧ nv = .int .i64 x ∧ Kp No W0 wr) (fun _ i _ => J.funcs.length - (intOf i).toNat)
  case atStart => exact ⟨0, 0, by omega, rfl, rfl, Kp.refl _ _⟩
  case round =>
    obtain ⟨k, x, hk, rfl, rfl, hkp⟩ := hrel
    have hbj := hkp.blk hb0 (fun x => x)
    have j0 := cell_blk hbj 0 (v := .slice ao J.funcs.length cap) rfl
    by_cases hlt : k < J.funcs.length
    · by_cases hx : x ≤ 2000
      · have e1 : decide (x ≤ 2000) = true := decide_eq_true hx
        obtain ⟨b, o, hb, rfl, hfc⟩ := f3 (by omega)
        obtain ⟨F, hF⟩ : ∃ F, J.funcs[k]? = some F := ⟨_, List.getElem?_eq_getElem hlt⟩
        obtain ⟨hns, c0, c1, c2, cv, c3, hco⟩ := hfc k F hF
        obtain ⟨cao, ccap, rfl, q1, q2, q3⟩ := hco.ex
        have kw : Kp No w wr := k0.trans hkp (fun _ _ x => x)
        have x0 := kw.cell c0 (fun x => x)
        have x3 := kw.cell c3 (fun x => x)
        have i1 : (k : Int) < J.funcs.length := by omega
        have i0 : (0 : Int) ≤ k := by omega
        clear hfc hF c0 c1 c2 c3 hco q3 f3 hx hbj kw
        go_wp2
        go_quiet (fail)
        go_wp2
        go_roundw
        case rel => exact ⟨k + 1, _, by omega, by go_num, rfl, hkp.drewN _⟩
        case measure => simp [intOf]; omega
      · have e1 : decide (x ≤ 2000) = false := decide_eq_false hx
        clear hx f3 hbj
        go_wp2
        go_ret
        exact ⟨_, rfl, k0.trans hkp (fun _ _ x => x)⟩
    · clear f3 hbj
      go_wp2
      go_ret
      exact ⟨_, rfl, k0.trans hkp (fun _ _ x => x)⟩
end Go.Proofs.YtgjdlloiiedpmaaLiftDoor
