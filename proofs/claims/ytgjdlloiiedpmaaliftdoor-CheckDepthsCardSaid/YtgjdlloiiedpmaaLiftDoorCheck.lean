/- 'Check'. No condition. -/
import Derived.Test.YtgjdlloiiedpmaaLiftDoorAsked
namespace Go.Proofs.YtgjdlloiiedpmaaLiftDoor
open Go.RowKit

def checkR (J : SJob) : Int × Int × Int := (checkS J).getD (0, 0, 0)

/-- A job's value, read below block B. -/
structure JobAt (B : Nat) (w : World) (fv av : Value) (J : SJob) : Prop where
  fu : FuncsAt B w fv J.funcs
  ar : IntsAt B w av J.args
theorem JobAt.to {B : Nat} {w w' : World} {fv av : Value} {J : SJob} (h : JobAt B w fv av J) (hb : Below B w w') : JobAt B w' fv av J := ⟨h.fu.to hb, h.ar.to hb⟩

set_option maxRecDepth 100000 in
set_option maxHeartbeats 2000000 in
theorem check_any (fv av : Value) (J : SJob) (w : World) (hg : ErrVar w) (hJ : JobAt w.heap.size w fv av J) :
    Calls Tryl.prog 11 #[.agg #[fv, .int .i64 J.main, av, .int .i64 J.fuel, .int .i64 J.tasks]] w fun e w' =>
      e = .returned (.tuple #[.int .i64 (checkR J).1, .int .i64 (checkR J).2.1, .int .i64 (checkR J).2.2]) ∧ Kp No w w' := by
  have hmf : ∀ (fn : Fn) (first cap : Array Value) (w : World), (Instr.makeFunc fn first cap).run Tryl.prog w = .ok (.func fn first cap) w := fun _ _ _ _ => rfl
  obtain ⟨ao, cap, rfl, f1, f2, f3⟩ := hJ.fu.ex
  obtain ⟨aao, acap, rfl, a1, a2, a3⟩ := hJ.ar.ex
  clear f3 a3
  have hcb : w.heap.size + 1 ≠ 0 := by omega
  have HD : DoW w.heap.size (w.heap.size + 1) (w.heap.size + 1 + 1) w.heap.size ao cap (.slice aao J.args.length acap) J 0 0 (((w.alloc (.cells #[.slice ao J.funcs.length cap, .int .i64 J.main, .slice aao J.args.length acap, .int .i64 J.fuel, .int .i64 J.tasks] 26)).alloc
      (.cells (ckCells (.slice ao J.funcs.length cap) (.slice aao J.args.length acap) J 0 0) 49)).alloc (.cells #[.pointer (some ⟨w.heap.size + 1, 0, none⟩)] 47)) :=
    ⟨blk_alloc (blk_new _ _ _ (by simp)) _, blk_new _ _ _ (by simp), blk_alloc (blk_alloc (blk_new _ _ _ rfl) _) _,
      hJ.fu.to (((((Below.refl _ _).alloc (Nat.le_refl _) _).alloc (by simp) _).alloc (by simp; omega) _)), hJ.ar.to (((((Below.refl _ _).alloc (Nat.le_refl _) _).alloc (by simp) _).alloc (by simp; omega) _)), by simp; omega⟩
  have PA := asked_any w.heap.size (w.heap.size + 1) (w.heap.size + 1 + 1) w.heap.size ao cap (.slice aao J.args.length acap) J _ (cell_al (cell_al (cell_al hg _) _) _) hcb HD (by omega) (by omega) (by omega)
  have hav : askedV (checkS J) = .agg #[.int .i64 (checkR J).1, .int .i64 (checkR J).2.1, .int .i64 (checkR J).2.2] := by
    unfold askedV checkR; cases checkS J with
    | none => rfl
    | some p => rfl
  rw [hav] at PA
  go_enter Tryl.func11, Tryl.ntmps11
  go_wp2_with (first | (go_at_call 17; (with_reducible refine PA.mono ?_); rintro e w' ⟨rfl, hk⟩))
  have hk2 : Kp No w w' := ((((Kp.refl No w).alloc _).alloc _).alloc _).trans hk (fun i hi h => by omega)
  go_quiet (fail)
  go_wp2
  exact ⟨rfl, _, by simp [results, Tryl.results11], rfl, (hk2.alloc _).drewN _⟩
end Go.Proofs.YtgjdlloiiedpmaaLiftDoor
