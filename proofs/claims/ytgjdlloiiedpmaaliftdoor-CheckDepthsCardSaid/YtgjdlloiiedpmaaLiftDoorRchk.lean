/- The reference's 'Check': the walk. No condition. -/
import Derived.Test.YtgjdlloiiedpmaaLiftDoorRfun
import Derived.BigQuiet
namespace Go.Proofs.YtgjdlloiiedpmaaLiftDoor
open Go.RowKit

def rfuncsS (fs : List SFunc) : Nat → List SFunc → Option (Int × Int × Int)
  | _, [] => none
  | k, F :: r => match rfunS fs k F with
    | some (i, e) => some ((k : Int), i, e)
    | none => rfuncsS fs (k + 1) r
def rcheckS (J : SJob) : Option (Int × Int × Int) :=
  match headS J with
  | some e => some (0, 0, e)
  | none => rfuncsS J.funcs 0 J.funcs

theorem rfun_ne {fs : List SFunc} {k : Nat} {F : SFunc} {i e : Int} (h : rfunS fs k F = some (i, e)) : e ≠ 0 := by
  unfold rfunS at h
  split at h
  · cases h; decide
  · split at h
    · cases h; decide
    · split at h
      · cases h; decide
      · split at h
        · cases h; decide
        · split at h
          · rename_i r hr
            cases h
            exact inssS_ne hr
          · have step : ∀ {D D' : List Int} {l n e : Int}, rstepS D l n = (some e, D') → e ≠ 0 := by
              intro D D' l n e h
              unfold rstepS at h
              split at h
              · cases h; decide
              · split at h
                · cases h; decide
                · cases h
            have steps : ∀ {l : Int} {ns : List Int} {D D' : List Int} {e : Int}, rstepsS l ns D = (some e, D') → e ≠ 0 := by
              intro l ns
              induction ns with
              | nil => intro D D' e h; cases h
              | cons n r ih =>
                intro D D' e h
                unfold rstepsS at h
                split at h
                · rename_i e' D2 he
                  cases h
                  exact step he
                · exact ih h
            have one : ∀ {fs : List SFunc} {code : List SIns} {D D' : List Int} {k : Nat} {e : Int}, roneS fs code D k = (some e, D') → e ≠ 0 := by
              intro fs code D D' k e h
              unfold roneS at h
              simp only at h
              split at h
              · cases h; decide
              · exact steps h
            have all : ∀ {fs : List SFunc} {code : List SIns} {f : Nat} {D : List Int} {G : List Bool} {i e : Int}, (rallS fs code f D G).1 = some (i, e) → e ≠ 0 := by
              intro fs code f
              induction f with
              | zero => intro D G i e h; cases h
              | succ f ih =>
                intro D G i e h
                unfold rallS at h
                split at h
                · cases h
                · split at h
                  · rename_i e' D2 he
                    cases h
                    exact one he
                  · exact ih h
            exact all h

set_option maxRecDepth 100000 in
set_option maxHeartbeats 8000000 in
theorem rcheck_any (B : Nat) (fv av : Value) (J : SJob) (w : World) (hJ : JobAt B w fv av J) (hB : B ≤ w.heap.size) :
    Calls Tryl.prog 22 #[.agg #[fv, .int .i64 J.main, av, .int .i64 J.fuel, .int .i64 J.tasks]] w fun e w' =>
      e = .returned (.tuple #[.int .i64 ((rcheckS J).getD (0, 0, 0)).1, .int .i64 ((rcheckS J).getD (0, 0, 0)).2.1, .int .i64 ((rcheckS J).getD (0, 0, 0)).2.2]) ∧ Kp No w w' := by
  obtain ⟨R, hR⟩ : ∃ R, R = rcheckS J := ⟨_, rfl⟩
  rw [← hR]
  have HR0 := Lib.hid hR
  clear hR
  have hfu0 := hJ.fu
  obtain ⟨ao, cap, rfl, f1, f2, f3⟩ := hJ.fu.ex
  obtain ⟨aao, acap, rfl, a1, a2, a3⟩ := hJ.ar.ex
  clear a3
  have HF3 := Lib.hid f3
  clear f3 hJ
  rcases (show (J.funcs.length = 0) ∨ (¬ J.funcs.length = 0 ∧ 32 < J.funcs.length) ∨ (¬ J.funcs.length = 0 ∧ J.funcs.length ≤ 32 ∧ J.fuel < 1) ∨ (¬ J.funcs.length = 0 ∧ J.funcs.length ≤ 32 ∧ 1 ≤ J.fuel ∧ 5000 < J.fuel) ∨ (¬ J.funcs.length = 0 ∧ J.funcs.length ≤ 32 ∧ 1 ≤ J.fuel ∧ J.fuel ≤ 5000 ∧ J.tasks < 1) ∨ (¬ J.funcs.length = 0 ∧ J.funcs.length ≤ 32 ∧ 1 ≤ J.fuel ∧ J.fuel ≤ 5000 ∧ 1 ≤ J.tasks ∧ 500 < J.tasks) ∨ (¬ J.funcs.length = 0 ∧ J.funcs.length ≤ 32 ∧ 1 ≤ J.fuel ∧ J.fuel ≤ 5000 ∧ 1 ≤ J.tasks ∧ J.tasks ≤ 500 ∧ J.main < 0) ∨ (¬ J.funcs.length = 0 ∧ J.funcs.length ≤ 32 ∧ 1 ≤ J.fuel ∧ J.fuel ≤ 5000 ∧ 1 ≤ J.tasks ∧ J.tasks ≤ 500 ∧ 0 ≤ J.main ∧ (J.funcs.length : Int) ≤ J.main) ∨ (¬ J.funcs.length = 0 ∧ J.funcs.length ≤ 32 ∧ 1 ≤ J.fuel ∧ J.fuel ≤ 5000 ∧ 1 ≤ J.tasks ∧ J.tasks ≤ 500 ∧ 0 ≤ J.main ∧ J.main < (J.funcs.length : Int)) by omega) with g0 | g1 | g2 | g3 | g4 | g5 | g6 | g7 | gz
  · have HE : Hid (R = some (0, 0, 14)) := by
      have hh : headS J = some 14 := by
        unfold headS
        rw [if_pos g0]
      unfold Hid; rw [HR0.out]; unfold rcheckS; rw [hh]
    have c0 : ((J.funcs.length : Int) == 0) = true := by rw [beq_iff_eq]; omega
    clear g0
    go_enter Tryl.func22, Tryl.ntmps22
    go_wp2
    exact ⟨rfl, .tuple #[.int .i64 0, .int .i64 0, .int .i64 14], by simp [results, Tryl.results22], by rw [HE.out]; rfl, kp_al _ _⟩
  · have HE : Hid (R = some (0, 0, 3)) := by
      have hh : headS J = some 3 := by
        unfold headS
        rw [if_neg (by omega), if_pos (by omega)]
      unfold Hid; rw [HR0.out]; unfold rcheckS; rw [hh]
    have c0 : ((J.funcs.length : Int) == 0) = false := beq_false_of (by omega)
    have c1 : decide (32 < (J.funcs.length : Int)) = true := decide_eq_true (by omega)
    clear g1
    go_enter Tryl.func22, Tryl.ntmps22
    go_wp2
    exact ⟨rfl, .tuple #[.int .i64 0, .int .i64 0, .int .i64 3], by simp [results, Tryl.results22], by rw [HE.out]; rfl, kp_al _ _⟩
  · have HE : Hid (R = some (0, 0, 16)) := by
      have hh : headS J = some 16 := by
        unfold headS
        rw [if_neg (by omega), if_neg (by omega), if_pos (by omega)]
      unfold Hid; rw [HR0.out]; unfold rcheckS; rw [hh]
    have c0 : ((J.funcs.length : Int) == 0) = false := beq_false_of (by omega)
    have c1 : decide (32 < (J.funcs.length : Int)) = false := decide_eq_false (by omega)
    have c2 : decide (J.fuel < 1) = true := decide_eq_true (by omega)
    clear g2
    go_enter Tryl.func22, Tryl.ntmps22
    go_wp2
    exact ⟨rfl, .tuple #[.int .i64 0, .int .i64 0, .int .i64 16], by simp [results, Tryl.results22], by rw [HE.out]; rfl, kp_al _ _⟩
  · have HE : Hid (R = some (0, 0, 16)) := by
      have hh : headS J = some 16 := by
        unfold headS
        rw [if_neg (by omega), if_neg (by omega), if_pos (by omega)]
      unfold Hid; rw [HR0.out]; unfold rcheckS; rw [hh]
    have c0 : ((J.funcs.length : Int) == 0) = false := beq_false_of (by omega)
    have c1 : decide (32 < (J.funcs.length : Int)) = false := decide_eq_false (by omega)
    have c2 : decide (J.fuel < 1) = false := decide_eq_false (by omega)
    have c3 : decide (5000 < J.fuel) = true := decide_eq_true (by omega)
    clear g3
    go_enter Tryl.func22, Tryl.ntmps22
    go_wp2
    exact ⟨rfl, .tuple #[.int .i64 0, .int .i64 0, .int .i64 16], by simp [results, Tryl.results22], by rw [HE.out]; rfl, kp_al _ _⟩
  · have HE : Hid (R = some (0, 0, 16)) := by
      have hh : headS J = some 16 := by
        unfold headS
        rw [if_neg (by omega), if_neg (by omega), if_pos (by omega)]
      unfold Hid; rw [HR0.out]; unfold rcheckS; rw [hh]
    have c0 : ((J.funcs.length : Int) == 0) = false := beq_false_of (by omega)
    have c1 : decide (32 < (J.funcs.length : Int)) = false := decide_eq_false (by omega)
    have c2 : decide (J.fuel < 1) = false := decide_eq_false (by omega)
    have c3 : decide (5000 < J.fuel) = false := decide_eq_false (by omega)
    have c4 : decide (J.tasks < 1) = true := decide_eq_true (by omega)
    clear g4
    go_enter Tryl.func22, Tryl.ntmps22
    go_wp2
    exact ⟨rfl, .tuple #[.int .i64 0, .int .i64 0, .int .i64 16], by simp [results, Tryl.results22], by rw [HE.out]; rfl, kp_al _ _⟩
  · have HE : Hid (R = some (0, 0, 16)) := by
      have hh : headS J = some 16 := by
        unfold headS
        rw [if_neg (by omega), if_neg (by omega), if_pos (by omega)]
      unfold Hid; rw [HR0.out]; unfold rcheckS; rw [hh]
    have c0 : ((J.funcs.length : Int) == 0) = false := beq_false_of (by omega)
    have c1 : decide (32 < (J.funcs.length : Int)) = false := decide_eq_false (by omega)
    have c2 : decide (J.fuel < 1) = false := decide_eq_false (by omega)
    have c3 : decide (5000 < J.fuel) = false := decide_eq_false (by omega)
    have c4 : decide (J.tasks < 1) = false := decide_eq_false (by omega)
    have c5 : decide (500 < J.tasks) = true := decide_eq_true (by omega)
    clear g5
    go_enter Tryl.func22, Tryl.ntmps22
    go_wp2
    exact ⟨rfl, .tuple #[.int .i64 0, .int .i64 0, .int .i64 16], by simp [results, Tryl.results22], by rw [HE.out]; rfl, kp_al _ _⟩
  · have HE : Hid (R = some (0, 0, 14)) := by
      have hh : headS J = some 14 := by
        unfold headS
        rw [if_neg (by omega), if_neg (by omega), if_neg (by omega), if_pos (by omega)]
      unfold Hid; rw [HR0.out]; unfold rcheckS; rw [hh]
    have c0 : ((J.funcs.length : Int) == 0) = false := beq_false_of (by omega)
    have c1 : decide (32 < (J.funcs.length : Int)) = false := decide_eq_false (by omega)
    have c2 : decide (J.fuel < 1) = false := decide_eq_false (by omega)
    have c3 : decide (5000 < J.fuel) = false := decide_eq_false (by omega)
    have c4 : decide (J.tasks < 1) = false := decide_eq_false (by omega)
    have c5 : decide (500 < J.tasks) = false := decide_eq_false (by omega)
    have c6 : decide (J.main < 0) = true := decide_eq_true (by omega)
    clear g6
    go_enter Tryl.func22, Tryl.ntmps22
    go_wp2
    exact ⟨rfl, .tuple #[.int .i64 0, .int .i64 0, .int .i64 14], by simp [results, Tryl.results22], by rw [HE.out]; rfl, kp_al _ _⟩
  · have HE : Hid (R = some (0, 0, 14)) := by
      have hh : headS J = some 14 := by
        unfold headS
        rw [if_neg (by omega), if_neg (by omega), if_neg (by omega), if_pos (by omega)]
      unfold Hid; rw [HR0.out]; unfold rcheckS; rw [hh]
    have c0 : ((J.funcs.length : Int) == 0) = false := beq_false_of (by omega)
    have c1 : decide (32 < (J.funcs.length : Int)) = false := decide_eq_false (by omega)
    have c2 : decide (J.fuel < 1) = false := decide_eq_false (by omega)
    have c3 : decide (5000 < J.fuel) = false := decide_eq_false (by omega)
    have c4 : decide (J.tasks < 1) = false := decide_eq_false (by omega)
    have c5 : decide (500 < J.tasks) = false := decide_eq_false (by omega)
    have c6 : decide (J.main < 0) = false := decide_eq_false (by omega)
    have c7 : decide ((J.funcs.length : Int) ≤ J.main) = true := decide_eq_true (by omega)
    clear g7
    go_enter Tryl.func22, Tryl.ntmps22
    go_wp2
    exact ⟨rfl, .tuple #[.int .i64 0, .int .i64 0, .int .i64 14], by simp [results, Tryl.results22], by rw [HE.out]; rfl, kp_al _ _⟩
  have c0 : ((J.funcs.length : Int) == 0) = false := beq_false_of (by omega)
  have c1 : decide (32 < (J.funcs.length : Int)) = false := decide_eq_false (by omega)
  have c2 : decide (J.fuel < 1) = false := decide_eq_false (by omega)
  have c3 : decide (5000 < J.fuel) = false := decide_eq_false (by omega)
  have c4 : decide (J.tasks < 1) = false := decide_eq_false (by omega)
  have c5 : decide (500 < J.tasks) = false := decide_eq_false (by omega)
  have c6 : decide (J.main < 0) = false := decide_eq_false (by omega)
  have c7 : decide ((J.funcs.length : Int) ≤ J.main) = false := decide_eq_false (by omega)
  obtain ⟨m, hm⟩ : ∃ m : Nat, J.main = m := ⟨J.main.toNat, by omega⟩
  obtain ⟨F, hF⟩ : ∃ F, J.funcs[m]? = some F := ⟨_, List.getElem?_eq_getElem (show m < J.funcs.length by omega)⟩
  obtain ⟨fbk, fo, hfb, rfl, fc⟩ := HF3.out (by omega)
  obtain ⟨-, -, y1, -⟩ := fc m F hF
  have i1 : (m : Int) < J.funcs.length := by omega
  have i0 : (0 : Int) ≤ m := by omega
  have hL32 : J.funcs.length ≤ 32 := by omega
  have hLpos : 0 < J.funcs.length := by omega
  have HH : Hid (headS J = if (J.args.length : Int) ≠ F.args then some 15 else none) := by
    unfold Hid headS
    rw [if_neg (by omega), if_neg (by omega), if_neg (by omega), if_neg (by omega), hm, Int.toNat_natCast, hF]; rfl
  have lfb : fbk < w.heap.size := by omega
  rw [hm] at c6 c7 ⊢
  have c8 : decide (J.funcs.length ≤ m) = false := decide_eq_false (by omega)
  have HM := Lib.hid hm
  clear hF fc HF3 gz hm
  by_cases hA : (J.args.length : Int) = F.args
  rotate_left
  · have HE : Hid (R = some (0, 0, 15)) := by unfold Hid; rw [HR0.out]; unfold rcheckS; rw [HH.out, if_pos hA]
    have e1 : ((J.args.length : Int) != F.args) = true := by simp [hA]
    clear hA
    go_enter Tryl.func22, Tryl.ntmps22
    go_wp2
    go_quiet (fail)
    go_wp2
    exact ⟨rfl, .tuple #[.int .i64 0, .int .i64 0, .int .i64 15], by simp [results, Tryl.results22], by rw [HE.out]; rfl, (kp_al w _).drewN _⟩
  have e1 : ((J.args.length : Int) != F.args) = false := by simp [hA]
  have HR1 : Hid (R = rfuncsS J.funcs 0 J.funcs) := by unfold Hid; rw [HR0.out]; unfold rcheckS; rw [HH.out, if_neg (fun h => h hA)]
  clear hA
  go_enter Tryl.func22, Tryl.ntmps22
  go_wp2
  go_quiet (fail)
  go_wp2
  obtain ⟨W, hW⟩ : ∃ W, W = w.alloc (.cells #[.slice (some ⟨fbk, fo, none⟩) J.funcs.length cap, .int .i64 m, .slice aao J.args.length acap, .int .i64 J.fuel, .int .i64 J.tasks] 26) := ⟨_, rfl⟩
  have hb0 : W.heap[w.heap.size]? = some (.cells #[.slice (some ⟨fbk, fo, none⟩) J.funcs.length cap, .int .i64 m, .slice aao J.args.length acap, .int .i64 J.fuel, .int .i64 J.tasks] 26 (0, 0)) := hW ▸ blk_new _ _ _ rfl
  have k0 : Kp No w W := hW ▸ kp_al _ _
  rw [← hW]
  have KQ := fun n => (Kp.refl No W).drewN n
  clear hW c0 c1 c2 c3 c4 c5 c6 c7 c8 e1
  go_loopw [5] (fun i wr => ∃ k : Nat, k ≤ J.funcs.length ∧ i = .int .i64 k ∧ R = rfuncsS J.funcs k (J.funcs.drop k) ∧ Kp No W wr) (fun i _ => J.funcs.length - (intOf i).toNat)
  case atStart => exact ⟨0, by omega, rfl, by rw [HR1.out]; simp, KQ _⟩
  case round =>
    obtain ⟨k, hk, rfl, hR, hkp⟩ := hrel
    have HR := Lib.hid hR
    clear hR KQ
    have KW : Kp No w wr := k0.trans hkp (fun _ _ x => x)
    have bj := hkp.blk hb0 (fun x => x)
    have j0 := cell_blk bj 0 (v := .slice (some ⟨fbk, fo, none⟩) J.funcs.length cap) rfl
    have j1 := cell_blk bj 1 (v := .int .i64 m) rfl
    have j2 := cell_blk bj 2 (v := .slice aao J.args.length acap) rfl
    have j3 := cell_blk bj 3 (v := .int .i64 J.fuel) rfl
    have j4 := cell_blk bj 4 (v := .int .i64 J.tasks) rfl
    by_cases hlt : k < J.funcs.length
    · obtain ⟨G, hG⟩ : ∃ G, J.funcs[k]? = some G := ⟨_, List.getElem?_eq_getElem hlt⟩
      have PF := rfun_any B (some ⟨fbk, fo, none⟩) cap (.slice aao J.args.length acap) J k G wr hG (hfu0.to (KW.below hB (fun _ x => x.elim))) (Nat.le_trans hB KW.size) (by omega)
      rw [HM.out] at PF
      have HD : Hid (R = match rfunS J.funcs k G with | some (i, e) => some ((k : Int), i, e) | none => rfuncsS J.funcs (k + 1) (J.funcs.drop (k + 1))) := by
        unfold Hid; rw [HR.out, List.drop_eq_getElem_cons hlt, show J.funcs[k] = G by rw [List.getElem?_eq_getElem hlt] at hG; exact Option.some.inj hG]; rfl
      obtain ⟨q, hq⟩ : ∃ q, rfunS J.funcs k G = q := ⟨_, rfl⟩
      rw [hq] at PF HD
      cases q with
      | some p =>
        obtain ⟨pi, pe⟩ := p
        have he : (pe != 0) = true := by simp [rfun_ne hq]
        have HE : Hid (R = some ((k : Int), pi, pe)) := HD
        simp only [Option.getD_some] at PF
        clear hq HD hG
        go_wp2_with (first | (go_at_call 31; (with_reducible refine PF.mono ?_); rintro e w' ⟨rfl, hk9⟩; have KW' : Kp No w w' := KW.trans hk9 (fun _ _ x => x)))
        exact ⟨rfl, .tuple #[.int .i64 k, .int .i64 pi, .int .i64 pe], by simp [results, Tryl.results22], by rw [HE.out]; rfl, KW'⟩
      | none =>
        have HE : Hid (R = rfuncsS J.funcs (k + 1) (J.funcs.drop (k + 1))) := HD
        simp only [Option.getD_none] at PF
        clear hq HD hG
        go_wp2_with (first | (go_at_call 31; (with_reducible refine PF.mono ?_); rintro e w' ⟨rfl, hk9⟩; have KW' : Kp No w w' := KW.trans hk9 (fun _ _ x => x)))
        go_roundw
        case rel =>
          exact ⟨k + 1, by omega, by go_num, HE.out, hkp.trans hk9 (fun _ _ x => x)⟩
        case measure => simp [intOf]; omega
    · have HE : Hid (R = none) := by unfold Hid; rw [HR.out, List.drop_eq_nil_of_le (by omega)]; rfl
      go_wp2
      exact ⟨rfl, .tuple #[.int .i64 0, .int .i64 0, .int .i64 0], by simp [results, Tryl.results22], by rw [HE.out]; rfl, KW⟩
end Go.Proofs.YtgjdlloiiedpmaaLiftDoor
