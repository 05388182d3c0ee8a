/- The reference's 'Depths': the walk. No condition. -/
import Derived.Test.YtgjdlloiiedpmaaLiftDoorRchk
import Derived.Deep.RegionHeld3
namespace Go.Proofs.YtgjdlloiiedpmaaLiftDoor
open Go.RowKit

def rerr (J : SJob) : Int := ((rcheckS J).getD (0, 0, 0)).2.2
def rdepthsS (J : SJob) (f : Int) : Option (List Int) :=
  if rerr J ≠ 0 ∨ f < 0 ∨ (J.funcs.length : Int) ≤ f then none
  else match J.funcs[f.toNat]? with
    | some F => (rdOut (rwalkS J.funcs F.code)).1
    | none => none
theorem rfuncs_ne {fs : List SFunc} : ∀ {l : List SFunc} {k : Nat} {f i e : Int}, rfuncsS fs k l = some (f, i, e) → e ≠ 0
  | [], _, _, _, _, h => by cases h
  | F :: r, k, f, i, e, h => by
    unfold rfuncsS at h
    split at h
    · rename_i i' e' he
      cases h
      exact rfun_ne he
    · exact rfuncs_ne h
theorem rcheck_none {J : SJob} (h : rerr J = 0) : headS J = none ∧ rfuncsS J.funcs 0 J.funcs = none := by
  unfold rerr rcheckS at h
  cases hh : headS J with
  | some e => rw [hh] at h; exact absurd h (headS_ne hh)
  | none =>
    rw [hh] at h
    refine ⟨rfl, ?_⟩
    cases hf : rfuncsS J.funcs 0 J.funcs with
    | none => rfl
    | some p => obtain ⟨f, i, e⟩ := p; simp only [hf] at h; exact absurd h (rfuncs_ne hf)
theorem rfuncs_at {fs : List SFunc} : ∀ {l : List SFunc} {k j : Nat} {F : SFunc}, rfuncsS fs k l = none → l[j]? = some F → rfunS fs (k + j) F = none
  | [], _, _, _, _, h => by simp at h
  | G :: r, k, j, F, h, hj => by
    unfold rfuncsS at h
    split at h
    · cases h
    · rename_i he
      cases j with
      | zero =>
        have : G = F := by simpa using hj
        subst this; exact he
      | succ j =>
        have := rfuncs_at (j := j) h (by simpa using hj)
        rw [show k + (j + 1) = k + 1 + j by omega]; exact this
theorem rfun_none {fs : List SFunc} {k : Nat} {F : SFunc} (h : rfunS fs k F = none) : namedS fs k = true ∧ (0 ≤ F.args ∧ F.args ≤ 8) ∧ (F.args ≤ F.locals ∧ F.locals ≤ 16) ∧ 0 < F.code.length ∧ F.code.length ≤ 256 ∧ inssS fs.length F.locals F.code.length 0 F.code = none ∧ (rwalkS fs F.code).1 = none := by
  unfold rfunS at h
  split at h
  · cases h
  · rename_i hn
    split at h
    · cases h
    · rename_i ha
      split at h
      · cases h
      · rename_i hl
        split at h
        · cases h
        · rename_i hc
          have hc : 0 < F.code.length ∧ F.code.length ≤ 256 := by omega
          split at h
          · cases h
          · rename_i hi
            refine ⟨by simpa using hn, by omega, by omega, hc.1, hc.2, hi, h⟩

set_option maxRecDepth 100000 in
set_option maxHeartbeats 8000000 in
theorem rdeps_any (fv av : Value) (J : SJob) (f : Int) (w : World) (hJ : JobAt w.heap.size w fv av J) :
    Calls Tryl.prog 16 #[.agg #[fv, .int .i64 J.main, av, .int .i64 J.fuel, .int .i64 J.tasks], .int .i64 f] w fun e w' => ∃ v, e = .returned v ∧ IntsOf w.heap.size w' v (rdepthsS J f) ∧ Kp No w w' := by
  obtain ⟨ao, cap, rfl, f1, f2, f3⟩ := hJ.fu.ex
  obtain ⟨aao, acap, rfl, a1, a2, a3⟩ := hJ.ar.ex
  obtain ⟨W0, hW0⟩ : ∃ W0, W0 = w.alloc (.cells #[.slice ao J.funcs.length cap, .int .i64 J.main, .slice aao J.args.length acap, .int .i64 J.fuel, .int .i64 J.tasks] 26) := ⟨_, rfl⟩
  have hb0 : W0.heap[w.heap.size]? = some (.cells #[.slice ao J.funcs.length cap, .int .i64 J.main, .slice aao J.args.length acap, .int .i64 J.fuel, .int .i64 J.tasks] 26 (0, 0)) := hW0 ▸ blk_new _ _ _ rfl
  have k0 : Kp No w W0 := hW0 ▸ kp_al _ _
  have PC := rcheck_any w.heap.size _ _ J W0 (hJ.to (k0.below (Nat.le_refl _) (fun _ x => x.elim))) k0.size
  rw [hW0] at PC
  clear f3 a3
  obtain ⟨c, hc⟩ : ∃ c, (rcheckS J).getD (0, 0, 0) = c := ⟨_, rfl⟩
  obtain ⟨c1, c2, c3⟩ := c
  have hre : rerr J = c3 := by unfold rerr; rw [hc]
  rw [hc] at PC
  simp only at PC
  by_cases hbad : c3 ≠ 0 ∨ f < 0 ∨ (J.funcs.length : Int) ≤ f
  · have hD : rdepthsS J f = none := by unfold rdepthsS; rw [hre, if_pos hbad]
    rw [hD]
    by_cases h3 : c3 = 0
    · have e0 : (c3 != 0) = false := by simp [h3]
      subst h3
      rcases (show f < 0 ∨ (0 ≤ f ∧ (J.funcs.length : Int) ≤ f) by omega) with g | ⟨g, g'⟩
      · have e1 : decide (f < 0) = true := by simp; omega
        clear hbad g hD hre hc
        go_enter Tryl.func16, Tryl.ntmps16
        go_wp2_with (first | (go_at_call 22; (with_reducible refine PC.mono ?_); rintro e w' ⟨rfl, hk⟩))
        go_ret
        exact ⟨_, rfl, rfl, k0.trans (hW0 ▸ hk) (fun _ _ x => x)⟩
      · have e1 : decide (f < 0) = false := by simp; omega
        have e2 : decide ((J.funcs.length : Int) ≤ f) = true := by simp; omega
        clear hbad g g' hD hre hc
        go_enter Tryl.func16, Tryl.ntmps16
        go_wp2_with (first | (go_at_call 22; (with_reducible refine PC.mono ?_); rintro e w' ⟨rfl, hk⟩; have j0 := cell_blk (hk.blk (hW0 ▸ hb0) (fun x => x)) 0 (v := .slice ao J.funcs.length cap) rfl))
        go_ret
        exact ⟨_, rfl, rfl, k0.trans (hW0 ▸ hk) (fun _ _ x => x)⟩
    · have e0 : (c3 == 0) = false := by simp [h3]
      have e0' : (c3 != 0) = true := by simp [h3]
      clear hbad h3 hD hre hc
      go_enter Tryl.func16, Tryl.ntmps16
      go_wp2_with (first | (go_at_call 22; (with_reducible refine PC.mono ?_); rintro e w' ⟨rfl, hk⟩))
      go_ret
      exact ⟨_, rfl, rfl, k0.trans (hW0 ▸ hk) (fun _ _ x => x)⟩
  · obtain rfl : c3 = 0 := by omega
    obtain ⟨k, rfl⟩ : ∃ k : Nat, f = k := ⟨f.toNat, by omega⟩
    have hkl : k < J.funcs.length := by omega
    have e1 : decide ((k : Int) < 0) = false := decide_eq_false (by omega)
    have e2 : decide ((J.funcs.length : Int) ≤ k) = false := decide_eq_false (by omega)
    have e3 : decide (J.funcs.length ≤ k) = false := decide_eq_false (by omega)
    obtain ⟨F, hF⟩ : ∃ F, J.funcs[k]? = some F := ⟨J.funcs[k], List.getElem?_eq_getElem hkl⟩
    have hD : Hid (rdepthsS J k = (rdOut (rwalkS J.funcs F.code)).1) := by
      unfold Hid rdepthsS; rw [hre, if_neg hbad, Int.toNat_natCast, hF]
    have hfn := Lib.hid (rfun_none (rfuncs_at (rcheck_none hre).2 hF))
    clear hbad hre hc
    go_enter Tryl.func16, Tryl.ntmps16
    go_wp2_with (first | (go_at_call 22; (with_reducible refine PC.mono ?_); rintro e w' ⟨rfl, hk⟩; have j0 := cell_blk (hk.blk (hW0 ▸ hb0) (fun x => x)) 0 (v := .slice ao J.funcs.length cap) rfl))
    have hk' : Kp No W0 w' := hW0 ▸ hk
    have hbj := hk'.blk hb0 (fun x => x)
    have kw : Kp No w w' := k0.trans hk' (fun _ _ x => x)
    have hJ2 : JobAt w.heap.size w' (.slice ao J.funcs.length cap) (.slice aao J.args.length acap) J := hJ.to (kw.below (Nat.le_refl _) (fun _ x => x.elim))
    obtain ⟨nm, fa, fl, code⟩ := F
    obtain ⟨ao', cap', hv, f1', f2', f3'⟩ := hJ2.fu.ex
    cases hv
    obtain ⟨fbk, fo, hfb, rfl, fc⟩ := f3' (by omega)
    obtain ⟨hns, x0, x1, x2, cv, x3, hco⟩ := fc k _ hF
    obtain ⟨cao, ccap, rfl, q1, q2, q3⟩ := hco.ex
    simp only at x0 x1 x2 x3 hco q1 q2 q3
    have j1 := cell_blk hbj 1 (v := .int .i64 J.main) rfl
    have j2 := cell_blk hbj 2 (v := .slice aao J.args.length acap) rfl
    have j3 := cell_blk hbj 3 (v := .int .i64 J.fuel) rfl
    have j4 := cell_blk hbj 4 (v := .int .i64 J.tasks) rfl
    have hkI : (k : Int) < J.funcs.length := by omega
    have hk0 : (0 : Int) ≤ k := by omega
    obtain ⟨hnm, hfa, hfl, hcl1, hcl2, hin, hwn⟩ := hfn.out
    simp only at hcl1 hcl2 hin hwn
    have PD := rdepths_any w.heap.size (some ⟨fbk, fo, none⟩) cap (.slice aao J.args.length acap) J nm fa fl cao ccap code w'.drew (hJ2.fu.to ((Kp.refl No w').drew.below kw.size (fun _ x => x.elim))) (hco.to ((Kp.refl No w').drew.below kw.size (fun _ x => x.elim))) kw.size hcl1 hcl2 (fun k x hx => next_pos (inss_all hin x (List.mem_of_getElem? hx)) k)
    have HW := Lib.hid hwn
    have HKF := Lib.hid (fun (w2 : World) (h : Kp No w'.drew w2) => (kw.drew.trans h (fun _ _ x => x) : Kp No w w2))
    have HSZ := Lib.hid kw.size
    clear hF fc f3' q3 PC hnm hfa hfl hcl1 hcl2 hin hwn hfn hJ2 hJ hco hbj hb0 hk' hk hW0 k0
    unfold RdE at PD
    obtain ⟨rr, hrr⟩ : ∃ rr, rwalkS J.funcs code = rr := ⟨_, rfl⟩
    simp only at hD
    rw [hrr] at PD HW hD
    clear hrr
    obtain ⟨r1, D⟩ := rr
    obtain rfl : r1 = none := HW.out
    simp only [rdOut] at PD hD
    go_region_held3 (fun W => W.cell? ⟨w.heap.size, 0, none⟩ = some (.slice (some ⟨fbk, fo, none⟩) J.funcs.length cap) ∧ W.cell? ⟨w.heap.size, 1, none⟩ = some (.int .i64 J.main) ∧ W.cell? ⟨w.heap.size, 2, none⟩ = some (.slice aao J.args.length acap) ∧ W.cell? ⟨w.heap.size, 3, none⟩ = some (.int .i64 J.fuel) ∧ W.cell? ⟨w.heap.size, 4, none⟩ = some (.int .i64 J.tasks) ∧
      W.cell? ⟨fbk, fo + k * 4, none⟩ = some (.string nm) ∧ W.cell? ⟨fbk, fo + k * 4 + 1, none⟩ = some (.int .i64 fa) ∧ W.cell? ⟨fbk, fo + k * 4 + 2, none⟩ = some (.int .i64 fl) ∧ W.cell? ⟨fbk, fo + k * 4 + 3, none⟩ = some (.slice cao code.length ccap)) (first | exact ⟨z0, z1, z2, z3, z4, z5, z6, z7, z8⟩ | go_keep)
      ((go_at_call 23; (with_reducible refine PD.mono ?_); rintro e w9 ⟨v9, rfl, hv9, hk9⟩; have z0 := hk9.cell j0 (fun x => x); have z1 := hk9.cell j1 (fun x => x); have z2 := hk9.cell j2 (fun x => x); have z3 := hk9.cell j3 (fun x => x); have z4 := hk9.cell j4 (fun x => x); have z5 := hk9.cell x0 (fun x => x); have z6 := hk9.cell x1 (fun x => x); have z7 := hk9.cell x2 (fun x => x); have z8 := hk9.cell x3 (fun x => x)))
    go_wp2
    go_ret
    obtain ⟨db, dcap, rfl, hlo, hdb⟩ := hv9
    refine ⟨_, rfl, ?_, HKF.out _ hk9⟩
    rw [hD.out]
    exact ⟨db, dcap, rfl, Nat.le_trans HSZ.out hlo, hdb⟩
end Go.Proofs.YtgjdlloiiedpmaaLiftDoor
