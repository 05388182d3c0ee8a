/- 'CheckDepths': the walk. No condition. -/
import Derived.Test.YtgjdlloiiedpmaaLiftDoorRefP
import Derived.Test.YtgjdlloiiedpmaaLiftDoorBig
namespace Go.Proofs.YtgjdlloiiedpmaaLiftDoor
open Go.RowKit

set_option maxRecDepth 100000 in
set_option maxHeartbeats 8000000 in
theorem depl_any (fv av : Value) (J : SJob) (f : Int) (w : World) (hg : ErrVar w) (hJ : JobAt w.heap.size w fv av J) :
    Calls Tryl.prog 6 #[.agg #[fv, .int .i64 J.main, av, .int .i64 J.fuel, .int .i64 J.tasks], .int .i64 f] w fun e w' => e = .returned (.bool true) ∧ Kp No w w' := by
  obtain ⟨ao, cap, rfl, f1, f2, f3⟩ := hJ.fu.ex
  obtain ⟨aao, acap, rfl, a1, a2, a3⟩ := hJ.ar.ex
  obtain ⟨W0, hW0⟩ : ∃ W0, W0 = w.alloc (.cells #[.slice ao J.funcs.length cap, .int .i64 J.main, .slice aao J.args.length acap, .int .i64 J.fuel, .int .i64 J.tasks] 26) := ⟨_, rfl⟩
  have hb0 : W0.heap[w.heap.size]? = some (.cells #[.slice ao J.funcs.length cap, .int .i64 J.main, .slice aao J.args.length acap, .int .i64 J.fuel, .int .i64 J.tasks] 26 (0, 0)) := hW0 ▸ blk_new _ _ _ rfl
  have k0 : Kp No w W0 := hW0 ▸ kp_al _ _
  have JW : ∀ W, Kp No W0 W → JobAt W.heap.size W (.slice ao J.funcs.length cap) (.slice aao J.args.length acap) J := fun W hk => (hJ.to ((k0.trans hk (fun _ _ x => x)).below (Nat.le_refl _) (fun _ x => x.elim))).mono (k0.trans hk (fun _ _ x => x)).size
  have GW : ∀ W, Kp No W0 W → ErrVar W := fun W hk => (k0.trans hk (fun _ _ x => x)).cell hg (fun x => x)
  have PA : ∀ W, Kp No W0 W → Calls Tryl.prog 9 #[] W fun e w' => e = .returned (.bool true) ∧ Kp No W0 w' := fun W hk => (alive_any W (GW W hk)).mono fun e w' h => ⟨h.1, hk.trans h.2 (fun _ _ x => x)⟩
  have PB : ∀ W, Kp No W0 W → Calls Tryl.prog 13 #[.agg #[.slice ao J.funcs.length cap, .int .i64 J.main, .slice aao J.args.length acap, .int .i64 J.fuel, .int .i64 J.tasks]] W fun e w' => ∃ b, e = .returned (.bool b) ∧ Kp No W0 w' := fun W hk => (big_any _ _ J W (JW W hk)).mono fun e w' ⟨b, h1, h2⟩ => ⟨b, h1, hk.trans h2 (fun _ _ x => x)⟩
  have PD : ∀ (g : Int) W, Kp No W0 W → Calls Tryl.prog 15 #[.agg #[.slice ao J.funcs.length cap, .int .i64 J.main, .slice aao J.args.length acap, .int .i64 J.fuel, .int .i64 J.tasks], .int .i64 g] W fun e w' => ∃ v, e = .returned v ∧ IntsIn w' v ((depthsS J g).getD []) ∧ Kp No W w' ∧ Kp No W0 w' := fun g W hk => (depths_any _ _ J g W (GW W hk) (JW W hk) (by omega)).mono fun e w' ⟨v, h1, h2, h3⟩ => ⟨v, h1, intsIn_of h2, h3, hk.trans h3 (fun _ _ x => x)⟩
  have PR : ∀ (g : Int) W, Kp No W0 W → Calls Tryl.prog 16 #[.agg #[.slice ao J.funcs.length cap, .int .i64 J.main, .slice aao J.args.length acap, .int .i64 J.fuel, .int .i64 J.tasks], .int .i64 g] W fun e w' => ∃ v, e = .returned v ∧ IntsIn w' v ((depthsS J g).getD []) ∧ Kp No W w' ∧ Kp No W0 w' := fun g W hk => (rdeps_any _ _ J g W (JW W hk)).mono fun e w' ⟨v, h1, h2, h3⟩ => ⟨v, h1, by rw [← depths_eq]; exact intsIn_of h2, h3, hk.trans h3 (fun _ _ x => x)⟩
  have PS : ∀ (g : Int) (va vb : Value) W, Kp No W0 W → IntsIn W va ((depthsS J g).getD []) → IntsIn W vb ((depthsS J g).getD []) → Calls Tryl.prog 14 #[va, vb] W fun e w' => e = .returned (.bool true) ∧ Kp No W0 w' := fun g va vb W hk ha hb => (same_any _ _ va vb W ha hb (Nat.le_trans depths_short (by decide))).mono fun e w' h => ⟨by rw [h.1]; simp, hk.trans h.2 (fun _ _ x => x)⟩
  have C0 : ∀ W, Kp No W0 W → W.cell? ⟨w.heap.size, 0, none⟩ = some (.slice ao J.funcs.length cap) ∧ W.cell? ⟨w.heap.size, 1, none⟩ = some (.int .i64 J.main) ∧ W.cell? ⟨w.heap.size, 2, none⟩ = some (.slice aao J.args.length acap) ∧ W.cell? ⟨w.heap.size, 3, none⟩ = some (.int .i64 J.fuel) ∧ W.cell? ⟨w.heap.size, 4, none⟩ = some (.int .i64 J.tasks) := fun W hk =>
    ⟨cell_blk (hk.blk hb0 (fun x => x)) 0 rfl, cell_blk (hk.blk hb0 (fun x => x)) 1 rfl, cell_blk (hk.blk hb0 (fun x => x)) 2 rfl, cell_blk (hk.blk hb0 (fun x => x)) 3 rfl, cell_blk (hk.blk hb0 (fun x => x)) 4 rfl⟩
  have PA0 := PA W0 (Kp.refl _ _)
  have HC0 := Lib.hid C0
  have HPB := Lib.hid PB
  have HPD := Lib.hid PD
  have HPR := Lib.hid PR
  have HPS := Lib.hid PS
  rw [hW0] at PA0
  clear f3 a3 hJ JW GW PA PB PD PR PS C0 hg
  go_enter Tryl.func6, Tryl.ntmps6
  go_wp2_with (first
    | (go_at_call 9; (with_reducible refine PA0.mono ?_); rintro e w1 ⟨rfl, hk1⟩; have hk1' : Kp No W0 w1 := hW0 ▸ hk1; obtain ⟨q0, q1, q2, q3, q4⟩ := HC0.out w1 hk1')
    | (go_at_call 13; (with_reducible refine (HPB.out _ hk1').mono ?_); rintro e w2 ⟨b, rfl, hk2⟩))
  rotate_left
  · obtain rfl : b = false := by first | assumption | simp_all
    go_loopw [7] (fun i wr => ∃ k : Nat, k ≤ J.funcs.length ∧ i = .int .i64 k ∧ Kp No W0 wr) (fun i _ => J.funcs.length - (intOf i).toNat)
    case atStart => exact ⟨0, by omega, rfl, hk2⟩
    case round =>
      obtain ⟨k, hk, rfl, hkp⟩ := hrel
      clear q0 q1 q2 q3 q4 hk1 hk1' hk2 PA0
      obtain ⟨q0, q1, q2, q3, q4⟩ := HC0.out _ hkp
      by_cases hlt : k < J.funcs.length
      · go_wp2
        have kk := hkp.drew
        obtain ⟨z0, z1, z2, z3, z4⟩ := HC0.out _ kk
        go_region_held3 (fun W => Kp No W0 W ∧ W.cell? ⟨w.heap.size, 0, none⟩ = some (.slice ao J.funcs.length cap) ∧ W.cell? ⟨w.heap.size, 1, none⟩ = some (.int .i64 J.main) ∧ W.cell? ⟨w.heap.size, 2, none⟩ = some (.slice aao J.args.length acap) ∧ W.cell? ⟨w.heap.size, 3, none⟩ = some (.int .i64 J.fuel) ∧ W.cell? ⟨w.heap.size, 4, none⟩ = some (.int .i64 J.tasks))
          (first | exact ⟨kk, z0, z1, z2, z3, z4⟩ | go_keep)
          ((first
          | (go_at_call 15; (refine Calls.mono (HPD.out k _ (by assumption)) ?_); rintro e wa ⟨va, rfl, hva, hka, kk⟩; (try have hvb := hvb.kp hka); obtain ⟨z0, z1, z2, z3, z4⟩ := HC0.out wa kk)
          | (go_at_call 16; (refine Calls.mono (HPR.out k _ (by assumption)) ?_); rintro e wb ⟨vb, rfl, hvb, hkb, kk⟩; (try have hva := hva.kp hkb); obtain ⟨z0, z1, z2, z3, z4⟩ := HC0.out wb kk)
          | (go_at_call 14; (refine Calls.mono (HPS.out k _ _ _ (by assumption) hva hvb) ?_); rintro e wc ⟨rfl, kk⟩; obtain ⟨z0, z1, z2, z3, z4⟩ := HC0.out wc kk)))
        go_wp2
        go_roundw
        case rel =>
          exact ⟨k + 1, by omega, by go_num, kk⟩
        case measure => simp [intOf]; omega
      · go_wp2
        have kk := hkp.drew
        obtain ⟨z0, z1, z2, z3, z4⟩ := HC0.out _ kk
        go_region_held3 (fun W => Kp No W0 W ∧ W.cell? ⟨w.heap.size, 0, none⟩ = some (.slice ao J.funcs.length cap) ∧ W.cell? ⟨w.heap.size, 1, none⟩ = some (.int .i64 J.main) ∧ W.cell? ⟨w.heap.size, 2, none⟩ = some (.slice aao J.args.length acap) ∧ W.cell? ⟨w.heap.size, 3, none⟩ = some (.int .i64 J.fuel) ∧ W.cell? ⟨w.heap.size, 4, none⟩ = some (.int .i64 J.tasks))
          (first | exact ⟨kk, z0, z1, z2, z3, z4⟩ | go_keep)
          ((first
          | (go_at_call 15; (refine Calls.mono (HPD.out f _ (by assumption)) ?_); rintro e wa ⟨va, rfl, hva, hka, kk⟩; (try have hvb := hvb.kp hka); obtain ⟨z0, z1, z2, z3, z4⟩ := HC0.out wa kk)
          | (go_at_call 16; (refine Calls.mono (HPR.out f _ (by assumption)) ?_); rintro e wb ⟨vb, rfl, hvb, hkb, kk⟩; (try have hva := hva.kp hkb); obtain ⟨z0, z1, z2, z3, z4⟩ := HC0.out wb kk)
          | (go_at_call 14; (refine Calls.mono (HPS.out f _ _ _ (by assumption) hva hvb) ?_); rintro e wc ⟨rfl, kk⟩; obtain ⟨z0, z1, z2, z3, z4⟩ := HC0.out wc kk)))
        go_wp2
        go_ret
        exact ⟨rfl, k0.trans kk (fun _ _ x => x)⟩
  · go_ret
    exact ⟨rfl, k0.trans hk2 (fun _ _ x => x)⟩
end Go.Proofs.YtgjdlloiiedpmaaLiftDoor
