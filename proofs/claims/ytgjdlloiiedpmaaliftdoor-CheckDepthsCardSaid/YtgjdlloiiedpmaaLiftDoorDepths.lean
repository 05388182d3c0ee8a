/- 'Depths'. No condition. -/
import Derived.Test.YtgjdlloiiedpmaaLiftDoorLaw
import Derived.Test.YtgjdlloiiedpmaaLiftDoorOk
namespace Go.Proofs.YtgjdlloiiedpmaaLiftDoor
open Go.RowKit

/-- What Depths hands back: nothing, or the depths that the walk leaves. -/
def depthsS (J : SJob) (f : Int) : Option (List Int) :=
  if (checkR J).2.2 ≠ 0 ∨ f < 0 ∨ (J.funcs.length : Int) ≤ f then none
  else match J.funcs[f.toNat]? with
    | some F => some (walkS J.funcs F.code).2
    | none => none

/-- A slice value of ints in memory, from its head on; nothing: nil. -/
def IntsOf (B : Nat) (w : World) (v : Value) : Option (List Int) → Prop
  | none => v = .slice none 0 0
  | some D => ∃ b cap, v = .slice (some ⟨b, 0, none⟩) D.length cap ∧ B ≤ b ∧ ArrAt w b (ints D)

set_option maxRecDepth 100000 in
set_option maxHeartbeats 4000000 in
theorem depths_any (fv av : Value) (J : SJob) (f : Int) (w : World) (hg : ErrVar w) (hJ : JobAt w.heap.size w fv av J) (hfew : J.funcs.length ≤ 9223372036854775807) :
    Calls Tryl.prog 15 #[.agg #[fv, .int .i64 J.main, av, .int .i64 J.fuel, .int .i64 J.tasks], .int .i64 f] w fun e w' => ∃ v, e = .returned v ∧ IntsOf w.heap.size w' v (depthsS J f) ∧ Kp No w w' := by
  obtain ⟨ao, cap, rfl, f1, f2, f3⟩ := hJ.fu.ex
  obtain ⟨aao, acap, rfl, a1, a2, a3⟩ := hJ.ar.ex
  obtain ⟨W0, hW0⟩ : ∃ W0, W0 = w.alloc (.cells #[.slice ao J.funcs.length cap, .int .i64 J.main, .slice aao J.args.length acap, .int .i64 J.fuel, .int .i64 J.tasks] 26) := ⟨_, rfl⟩
  have hb0 : W0.heap[w.heap.size]? = some (.cells #[.slice ao J.funcs.length cap, .int .i64 J.main, .slice aao J.args.length acap, .int .i64 J.fuel, .int .i64 J.tasks] 26 (0, 0)) := hW0 ▸ blk_new _ _ _ rfl
  have k0 : Kp No w W0 := hW0 ▸ kp_al _ _
  have hJ0 : JobAt w.heap.size W0 (.slice ao J.funcs.length cap) (.slice aao J.args.length acap) J := hJ.to (k0.below (Nat.le_refl _) (fun _ x => x.elim))
  have hg0 : ErrVar W0 := k0.cell hg (fun x => x)
  have PC := check_any _ _ J W0 hg0 (hJ0.mono k0.size)
  rw [hW0] at PC
  clear f3 a3
  obtain ⟨c, hc⟩ : ∃ c, checkR J = c := ⟨_, rfl⟩
  obtain ⟨c1, c2, c3⟩ := c
  rw [hc] at PC
  by_cases hbad : c3 ≠ 0 ∨ f < 0 ∨ (J.funcs.length : Int) ≤ f
  · have hD : depthsS J f = none := by unfold depthsS; rw [hc, if_pos hbad]
    rw [hD]
    by_cases h3 : c3 = 0
    · have e0 : (c3 != 0) = false := by simp [h3]
      subst h3
      rcases (show f < 0 ∨ (0 ≤ f ∧ (J.funcs.length : Int) ≤ f) by omega) with g | ⟨g, g'⟩
      · have e1 : decide (f < 0) = true := by simp; omega
        clear hbad g
        go_enter Tryl.func15, Tryl.ntmps15
        go_wp2_with (first | (go_at_call 11; (with_reducible refine PC.mono ?_); rintro e w' ⟨rfl, hk⟩))
        go_ret
        exact ⟨_, rfl, rfl, k0.trans (hW0 ▸ hk) (fun _ _ x => x)⟩
      · have e1 : decide (f < 0) = false := by simp; omega
        have e2 : decide ((J.funcs.length : Int) ≤ f) = true := by simp; omega
        clear hbad g g'
        go_enter Tryl.func15, Tryl.ntmps15
        go_wp2_with (first | (go_at_call 11; (with_reducible refine PC.mono ?_); rintro e w' ⟨rfl, hk⟩; have j0 := cell_blk (hk.blk (hW0 ▸ hb0) (fun x => x)) 0 (v := .slice ao J.funcs.length cap) rfl))
        go_ret
        exact ⟨_, rfl, rfl, k0.trans (hW0 ▸ hk) (fun _ _ x => x)⟩
    · have e0 : (c3 == 0) = false := by simp [h3]
      have e0' : (c3 != 0) = true := by simp [h3]
      clear hbad h3
      go_enter Tryl.func15, Tryl.ntmps15
      go_wp2_with (first | (go_at_call 11; (with_reducible refine PC.mono ?_); rintro e w' ⟨rfl, hk⟩))
      go_ret
      exact ⟨_, rfl, rfl, k0.trans (hW0 ▸ hk) (fun _ _ x => x)⟩
  · obtain rfl : c3 = 0 := by omega
    obtain ⟨k, rfl⟩ : ∃ k : Nat, f = k := ⟨f.toNat, by omega⟩
    have hkl : k < J.funcs.length := by omega
    have e1 : decide ((k : Int) < 0) = false := decide_eq_false (by omega)
    have e2 : decide ((J.funcs.length : Int) ≤ k) = false := decide_eq_false (by omega)
    go_enter Tryl.func15, Tryl.ntmps15
    go_wp2_with (first | (go_at_call 11; (with_reducible refine PC.mono ?_); rintro e w' ⟨rfl, hk⟩; have j0 := cell_blk (hk.blk (hW0 ▸ hb0) (fun x => x)) 0 (v := .slice ao J.funcs.length cap) rfl))
    have hk' : Kp No W0 w' := hW0 ▸ hk
    have hbj := hk'.blk hb0 (fun x => x)
    have kw : Kp No w w' := k0.trans hk' (fun _ _ x => x)
    have hJ2 : JobAt w.heap.size w' (.slice ao J.funcs.length cap) (.slice aao J.args.length acap) J := hJ.to (kw.below (Nat.le_refl _) (fun _ x => x.elim))
    have hg2 : ErrVar w' := kw.cell hg (fun x => x)
    obtain ⟨F, hF⟩ : ∃ F, J.funcs[k]? = some F := ⟨J.funcs[k], List.getElem?_eq_getElem hkl⟩
    obtain ⟨nm, fa, fl, code⟩ := F
    obtain ⟨ao', cap', hv, f1', f2', f3'⟩ := hJ2.fu.ex
    cases hv
    obtain ⟨fbk, fo, hfb, rfl, fc⟩ := f3' (by omega)
    obtain ⟨hns, x0, x1, x2, cv, x3, hco⟩ := fc k _ hF
    obtain ⟨cao, ccap, rfl, q1, q2, q3⟩ := hco.ex
    simp only at x0 x1 x2 x3 hco q1 q2 q3
    have j1 := cell_blk hbj 1 (v := .int .i64 J.main) rfl
    have j2 := cell_blk hbj 2 (v := .slice aao J.args.length acap) rfl
    have j3 := cell_blk hbj 3 (v := .int .i64 J.fuel) rfl
    have j4 := cell_blk hbj 4 (v := .int .i64 J.tasks) rfl
    have hkI : (k : Int) < J.funcs.length := by omega
    have hk0 : (0 : Int) ≤ k := by omega
    obtain ⟨hcl1, hcl2, hwn⟩ := check_ok (J := J) (by rw [hc]) hF
    simp only at hcl1 hcl2 hwn
    have hD : depthsS J k = some (walkS J.funcs code).2 := by
      unfold depthsS; rw [hc, if_neg (by omega), Int.toNat_natCast, hF]
    have HD := Lib.hid hD
    have HF := Lib.hid hF
    have HFC := Lib.hid fc
    clear hF fc f3' q3 PC hbad hD
    go_region_held3 (fun W => W.cell? ⟨w.heap.size, 0, none⟩ = some (.slice (some ⟨fbk, fo, none⟩) J.funcs.length cap) ∧ W.cell? ⟨w.heap.size, 1, none⟩ = some (.int .i64 J.main) ∧ W.cell? ⟨w.heap.size, 2, none⟩ = some (.slice aao J.args.length acap) ∧ W.cell? ⟨w.heap.size, 3, none⟩ = some (.int .i64 J.fuel) ∧ W.cell? ⟨w.heap.size, 4, none⟩ = some (.int .i64 J.tasks) ∧
      W.cell? ⟨fbk, fo + k * 4, none⟩ = some (.string nm) ∧ W.cell? ⟨fbk, fo + k * 4 + 1, none⟩ = some (.int .i64 fa) ∧ W.cell? ⟨fbk, fo + k * 4 + 2, none⟩ = some (.int .i64 fl) ∧ W.cell? ⟨fbk, fo + k * 4 + 3, none⟩ = some (.slice cao code.length ccap)) (go_keep) (fail)
    obtain ⟨W3, hW3⟩ : ∃ W3, W3 = ((w'.alloc (.cells (ckCells (.slice (some ⟨fbk, fo, none⟩) J.funcs.length cap) (.slice aao J.args.length acap) J 0 0) 49)).alloc (.cells (wkCells nm fa fl (.slice cao code.length ccap) w'.heap.size (.slice none 0 0) (.slice none 0 0)) 56)).drew := ⟨_, rfl⟩
    have H0 : W3.heap[w'.heap.size]? = some (.cells (ckCells (.slice (some ⟨fbk, fo, none⟩) J.funcs.length cap) (.slice aao J.args.length acap) J 0 0) 49 (0, 0)) := hW3 ▸ blk_alloc (blk_new w' _ _ rfl) _
    have H1 : W3.heap[w'.heap.size + 1]? = some (.cells (wkCells nm fa fl (.slice cao code.length ccap) w'.heap.size (.slice none 0 0) (.slice none 0 0)) 56 (0, 0)) := hW3 ▸ blk_new (w'.alloc _) _ _ (by simp)
    have k3 : Kp No w' W3 := hW3 ▸ (((Kp.refl No w').alloc _).alloc _).drew
    have kw3 : Kp No w W3 := kw.trans k3 (fun _ _ x => x)
    have hsz := kw.size
    have hsz3 : W3.heap.size = w'.heap.size + 1 + 1 := by rw [hW3]; simp [World.drew]
    have hJ3 : JobAt w.heap.size W3 (.slice (some ⟨fbk, fo, none⟩) J.funcs.length cap) (.slice aao J.args.length acap) J := hJ.to (kw3.below (Nat.le_refl _) (fun _ x => x.elim))
    have PA := all_any w.heap.size (w'.heap.size + 1) w'.heap.size nm fa fl cao ccap (some ⟨fbk, fo, none⟩) cap (.slice aao J.args.length acap) J 0 0 code W3 H1 H0 hJ3.fu (hco.to (k3.below hsz (fun _ x => x.elim))) hcl2 hcl1 (by omega) (by omega) hsz hfew
    unfold AllE at PA
    rw [hwn] at PA
    have HKF := Lib.hid (fun (w2 : World) (h : Kp (fun b => b = w'.heap.size + 1 ∨ b = w'.heap.size) W3 w2) => (kw3.trans h (fun i hi hx => by omega) : Kp No w w2))
    have HSZ := Lib.hid (show w.heap.size ≤ W3.heap.size by omega)
    rw [hW3] at PA HKF HSZ
    clear hW3 H0 H1 k3 kw3 hJ3 hsz hsz3
    go_wp2_with (first | (go_at_call 21; (with_reducible refine PA.mono ?_); rintro e w2 ⟨rfl, hk2, _, db, dcap, gv, hwb, hdb, hdl, hlo⟩; have d5 := cell_blk hwb 5 (v := .slice (some ⟨db, 0, none⟩) code.length dcap) rfl))
    go_ret
    refine ⟨_, rfl, ?_, HKF.out _ hk2⟩
    rw [HD.out]
    exact ⟨db, dcap, by rw [hdl]; rfl, Nat.le_trans HSZ.out hlo, hdb⟩
end Go.Proofs.YtgjdlloiiedpmaaLiftDoor
