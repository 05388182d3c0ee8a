/- '(*checker).head': what is no function's. No condition. -/
import Derived.Test.YtgjdlloiiedpmaaLiftDoorRegion
namespace Go.Proofs.YtgjdlloiiedpmaaLiftDoor
open Go.RowKit

/-- What a check comes to: nothing, or it gives up there with that error. -/
def Gives (f i : Int) (r : Option Int) (e : Ending) : Prop :=
  match r with
  | none => e = .returned (.tuple #[])
  | some x => e = gaveUp f i x

def headS (J : SJob) : Option Int :=
  if J.funcs.length = 0 then some 14 else if 32 < J.funcs.length then some 3
  else if ¬ (1 ≤ J.fuel ∧ J.fuel ≤ 5000 ∧ 1 ≤ J.tasks ∧ J.tasks ≤ 500) then some 16
  else if ¬ (0 ≤ J.main ∧ J.main < J.funcs.length) then some 14
  else if (J.args.length : Int) ≠ (J.funcs[J.main.toNat]?.map (·.args)).getD 0 then some 15 else none

/-- The checker's block. -/
abbrev ckCells (fv av : Value) (J : SJob) (f i : Int) : Array Value := #[fv, .int .i64 J.main, av, .int .i64 J.fuel, .int .i64 J.tasks, .int .i64 f, .int .i64 i]

theorem need_yes' (c : Value) (e : Int) (w : World) (b : Bool) (hb : b = true) :
    Calls Tryl.prog 26 #[c, .bool b, .int .i64 e] w fun x w' => x = .returned (.tuple #[]) ∧ w = w' := by
  subst hb; exact need_yes c e w

set_option maxHeartbeats 4000000 in
set_option maxRecDepth 100000 in
theorem head_any (B : Nat) (cb : Nat) (J : SJob) (fv av : Value) (f i : Int) (w : World) (hc : w.heap[cb]? = some (.cells (ckCells fv av J f i) 49 (0, 0)))
    (hf : FuncsAt B w fv J.funcs) (ha : IntsAt B w av J.args) :
    Calls Tryl.prog 19 #[.pointer (some ⟨cb, 0, none⟩)] w fun e w' => Gives f i (headS J) e ∧ ∃ n, w' = w.drewN n := by
  have c0 := cell_blk hc 0 (v := fv) rfl
  have c1 := cell_blk hc 1 (v := .int .i64 J.main) rfl
  have c2 := cell_blk hc 2 (v := av) rfl
  have c3 := cell_blk hc 3 (v := .int .i64 J.fuel) rfl
  have c4 := cell_blk hc 4 (v := .int .i64 J.tasks) rfl
  have c5 := cell_blk hc 5 (v := .int .i64 f) rfl
  have c6 := cell_blk hc 6 (v := .int .i64 i) rfl
  obtain ⟨fao, fcap, rfl, f1, f2, f3⟩ := hf.ex
  obtain ⟨aao, acap, rfl, a1, a2, a3⟩ := ha.ex
  have HL := Lib.hid (show J.funcs.length = J.funcs.length from rfl)
  by_cases h0 : J.funcs.length = 0
  · have H : Hid (headS J = some 14) := by unfold Hid headS; rw [if_pos h0]
    have d : decide (0 < J.funcs.length) = false := by simp [h0]
    clear h0 f3 a3
    go_enter Tryl.func19, Tryl.ntmps19
    go_wp2_with (first | (go_at_call 26; (with_reducible refine (need_no cb f i _ _ (by assumption) (by assumption)).mono ?_); rintro e w' ⟨rfl, n, rfl⟩) | (go_at_call 26; (with_reducible refine (need_yes _ _ _).mono ?_); rintro e w' ⟨rfl, rfl⟩))
    refine ⟨rfl, ?_, n, rfl⟩
    rw [H.out]; rfl
  have d0 : decide (0 < J.funcs.length) = true := by simp; omega
  by_cases h1 : 32 < J.funcs.length
  · have H : Hid (headS J = some 3) := by unfold Hid headS; rw [if_neg h0, if_pos h1]
    have d : decide ((J.funcs.length : Int) ≤ 32) = false := by simp; omega
    clear h0 f3 a3
    go_enter Tryl.func19, Tryl.ntmps19
    go_wp2_with (first | (go_at_call 26; (with_reducible refine (need_no cb f i _ _ (by assumption) (by assumption)).mono ?_); rintro e w' ⟨rfl, n, rfl⟩) | (go_at_call 26; (with_reducible refine (need_yes _ _ _).mono ?_); rintro e w' ⟨rfl, rfl⟩))
    refine ⟨rfl, ?_, n, rfl⟩
    rw [H.out]; rfl
  have d1 : decide ((J.funcs.length : Int) ≤ 32) = true := by simp; omega
  by_cases h2 : 1 ≤ J.fuel ∧ J.fuel ≤ 5000 ∧ 1 ≤ J.tasks ∧ J.tasks ≤ 500
  rotate_left
  · have H : Hid (headS J = some 16) := by unfold Hid headS; rw [if_neg h0, if_neg h1, if_pos h2]
    have h2' : J.fuel < 1 ∨ (1 ≤ J.fuel ∧ 5000 < J.fuel) ∨ (1 ≤ J.fuel ∧ J.fuel ≤ 5000 ∧ J.tasks < 1) ∨ (1 ≤ J.fuel ∧ J.fuel ≤ 5000 ∧ 1 ≤ J.tasks ∧ 500 < J.tasks) := by omega
    clear h0 h1 h2 f3 a3
    rcases h2' with g1 | ⟨g1, g2⟩ | ⟨g1, g2, g3⟩ | ⟨g1, g2, g3, g4⟩
    · have e1 : decide (1 ≤ J.fuel) = false := by simp; omega
      go_enter Tryl.func19, Tryl.ntmps19
      go_wp2_with (first | (go_at_call 26; (with_reducible refine (need_no cb f i _ _ (by assumption) (by assumption)).mono ?_); rintro e w' ⟨rfl, n, rfl⟩) | (go_at_call 26; (with_reducible refine (need_yes _ _ _).mono ?_); rintro e w' ⟨rfl, rfl⟩))
      refine ⟨rfl, ?_, n, rfl⟩
      rw [H.out]; rfl
    · have e1 : decide (1 ≤ J.fuel) = true := by simp; omega
      have e2 : decide (J.fuel ≤ 5000) = false := by simp; omega
      go_enter Tryl.func19, Tryl.ntmps19
      go_wp2_with (first | (go_at_call 26; (with_reducible refine (need_no cb f i _ _ (by assumption) (by assumption)).mono ?_); rintro e w' ⟨rfl, n, rfl⟩) | (go_at_call 26; (with_reducible refine (need_yes _ _ _).mono ?_); rintro e w' ⟨rfl, rfl⟩))
      refine ⟨rfl, ?_, n, rfl⟩
      rw [H.out]; rfl
    · have e1 : decide (1 ≤ J.fuel) = true := by simp; omega
      have e2 : decide (J.fuel ≤ 5000) = true := by simp; omega
      have e3 : decide (1 ≤ J.tasks) = false := by simp; omega
      go_enter Tryl.func19, Tryl.ntmps19
      go_wp2_with (first | (go_at_call 26; (with_reducible refine (need_no cb f i _ _ (by assumption) (by assumption)).mono ?_); rintro e w' ⟨rfl, n, rfl⟩) | (go_at_call 26; (with_reducible refine (need_yes _ _ _).mono ?_); rintro e w' ⟨rfl, rfl⟩))
      refine ⟨rfl, ?_, n, rfl⟩
      rw [H.out]; rfl
    · have e1 : decide (1 ≤ J.fuel) = true := by simp; omega
      have e2 : decide (J.fuel ≤ 5000) = true := by simp; omega
      have e3 : decide (1 ≤ J.tasks) = true := by simp; omega
      have e4 : decide (J.tasks ≤ 500) = false := by simp; omega
      go_enter Tryl.func19, Tryl.ntmps19
      go_wp2_with (first | (go_at_call 26; (with_reducible refine (need_no cb f i _ _ (by assumption) (by assumption)).mono ?_); rintro e w' ⟨rfl, n, rfl⟩) | (go_at_call 26; (with_reducible refine (need_yes _ _ _).mono ?_); rintro e w' ⟨rfl, rfl⟩))
      refine ⟨rfl, ?_, n, rfl⟩
      rw [H.out]; rfl
  have e1 : decide (1 ≤ J.fuel) = true := by simp; omega
  have e2 : decide (J.fuel ≤ 5000) = true := by simp; omega
  have e3 : decide (1 ≤ J.tasks) = true := by simp; omega
  have e4 : decide (J.tasks ≤ 500) = true := by simp; omega
  by_cases h3 : 0 ≤ J.main ∧ J.main < J.funcs.length
  rotate_left
  · have H : Hid (headS J = some 14) := by unfold Hid headS; rw [if_neg h0, if_neg h1, if_neg (by simpa using h2), if_pos h3]
    have h3' : J.main < 0 ∨ (0 ≤ J.main ∧ (J.funcs.length : Int) ≤ J.main) := by omega
    clear h0 h1 h2 h3 f3 a3
    rcases h3' with g1 | ⟨g1, g2⟩
    · have e5 : decide (0 ≤ J.main) = false := by simp; omega
      go_enter Tryl.func19, Tryl.ntmps19
      go_wp2_with (first | (go_at_call 26; (with_reducible refine (need_no cb f i _ _ (by simpa using c5) (by simpa using c6)).mono ?_); rintro e w' ⟨rfl, n, rfl⟩) | (go_at_call 26; (with_reducible refine (need_yes _ _ _).mono ?_); rintro e w' ⟨rfl, rfl⟩))
      refine wp_quiet_tail 21 (by kernel_rfl) (by kernel_rfl) ?_
      simp only [List.take_succ_cons, List.take_zero, List.drop_succ_cons, List.drop_zero]
      repeat (go_big_quiet_step (fail))
      refine wpQuiet_nil ?_
      go_wp2_with (first | (go_at_call 26; (with_reducible refine (need_no cb f i _ _ (by simpa using c5) (by simpa using c6)).mono ?_); rintro e w' ⟨rfl, n, rfl⟩) | (go_at_call 26; (with_reducible refine (need_yes _ _ _).mono ?_); rintro e w' ⟨rfl, rfl⟩))
      refine ⟨rfl, ?_, 1 + n, by simp⟩
      rw [H.out]; rfl
    · have e5 : decide (0 ≤ J.main) = true := by simp; omega
      have e6 : decide (J.main < (J.funcs.length : Int)) = false := by simp; omega
      go_enter Tryl.func19, Tryl.ntmps19
      go_wp2_with (first | (go_at_call 26; (with_reducible refine (need_no cb f i _ _ (by simpa using c5) (by simpa using c6)).mono ?_); rintro e w' ⟨rfl, n, rfl⟩) | (go_at_call 26; (with_reducible refine (need_yes _ _ _).mono ?_); rintro e w' ⟨rfl, rfl⟩))
      refine wp_quiet_tail 21 (by kernel_rfl) (by kernel_rfl) ?_
      simp only [List.take_succ_cons, List.take_zero, List.drop_succ_cons, List.drop_zero]
      repeat (go_big_quiet_step (fail))
      refine wpQuiet_nil ?_
      go_wp2_with (first | (go_at_call 26; (with_reducible refine (need_no cb f i _ _ (by simpa using c5) (by simpa using c6)).mono ?_); rintro e w' ⟨rfl, n, rfl⟩) | (go_at_call 26; (with_reducible refine (need_yes _ _ _).mono ?_); rintro e w' ⟨rfl, rfl⟩))
      refine ⟨rfl, ?_, 1 + n, by simp⟩
      rw [H.out]; rfl
  obtain ⟨h3a, h3b⟩ := h3
  obtain ⟨m, hm⟩ : ∃ m : Nat, J.main = m := ⟨J.main.toNat, by omega⟩
  obtain ⟨fb, fo, _, rfl, hfc⟩ := f3 (by omega)
  have hmL : m < J.funcs.length := by omega
  obtain ⟨g, hg⟩ : ∃ g, J.funcs[m]? = some g := ⟨_, List.getElem?_eq_getElem hmL⟩
  have cA := (hfc m g hg).2.2.1
  have H : Hid (headS J = if (J.args.length : Int) ≠ g.args then some 15 else none) := by
    unfold Hid headS; rw [if_neg h0, if_neg h1, if_neg (by simpa using h2), if_neg (by simp; omega), hm, Int.toNat_natCast, hg]; rfl
  have e5 : decide (0 ≤ J.main) = true := by simp; omega
  have e6 : decide (J.main < (J.funcs.length : Int)) = true := by simp; omega
  rw [hm] at c1 e5 e6
  clear h0 h1 h2 h3a h3b hfc a3 hg hm
  by_cases h4 : (J.args.length : Int) = g.args
  · have H' : Hid (headS J = none) := by unfold Hid; rw [H.out, if_neg (by simpa using h4)]
    have e7 : ((J.args.length : Int) == g.args) = true := by simp [h4]
    clear h4 H
    go_enter Tryl.func19, Tryl.ntmps19
    go_wp2_with (first | (go_at_call 26; (with_reducible refine (need_no cb f i _ _ (by simpa using c5) (by simpa using c6)).mono ?_); rintro e w' ⟨rfl, n, rfl⟩) | (go_at_call 26; (with_reducible refine (need_yes _ _ _).mono ?_); rintro e w' ⟨rfl, rfl⟩))
    refine wp_quiet_tail 21 (by kernel_rfl) (by kernel_rfl) ?_
    simp only [List.take_succ_cons, List.take_zero, List.drop_succ_cons, List.drop_zero]
    repeat (go_big_quiet_step (fail))
    refine wpQuiet_nil ?_
    go_wp2_with (first | (go_at_call 26; (with_reducible refine (need_no cb f i _ _ (by simpa using c5) (by simpa using c6)).mono ?_); rintro e w' ⟨rfl, n, rfl⟩) | (go_at_call 26; (with_reducible refine (need_yes _ _ _).mono ?_); rintro e w' ⟨rfl, rfl⟩))
    refine wp_quiet_tail 21 (by kernel_rfl) (by kernel_rfl) ?_
    simp only [List.take_succ_cons, List.take_zero, List.drop_succ_cons, List.drop_zero]
    repeat (go_big_quiet_step (fail))
    refine wpQuiet_nil ?_
    go_wp2_with (first | (go_at_call 26; (with_reducible refine (need_no cb f i _ _ (by simpa using c5) (by simpa using c6)).mono ?_); rintro e w' ⟨rfl, n, rfl⟩) | (go_at_call 26; (with_reducible refine (need_yes _ _ _).mono ?_); rintro e w' ⟨rfl, rfl⟩))
    go_end0
    refine ⟨?_, 2, rfl⟩
    rw [H'.out]; rfl
  · have H' : Hid (headS J = some 15) := by unfold Hid; rw [H.out, if_pos (by simpa using h4)]
    have e7 : ((J.args.length : Int) == g.args) = false := by simp [h4]
    clear h4 H
    go_enter Tryl.func19, Tryl.ntmps19
    go_wp2_with (first | (go_at_call 26; (with_reducible refine (need_no cb f i _ _ (by simpa using c5) (by simpa using c6)).mono ?_); rintro e w' ⟨rfl, n, rfl⟩) | (go_at_call 26; (with_reducible refine (need_yes _ _ _).mono ?_); rintro e w' ⟨rfl, rfl⟩))
    refine wp_quiet_tail 21 (by kernel_rfl) (by kernel_rfl) ?_
    simp only [List.take_succ_cons, List.take_zero, List.drop_succ_cons, List.drop_zero]
    repeat (go_big_quiet_step (fail))
    refine wpQuiet_nil ?_
    go_wp2_with (first | (go_at_call 26; (with_reducible refine (need_no cb f i _ _ (by simpa using c5) (by simpa using c6)).mono ?_); rintro e w' ⟨rfl, n, rfl⟩) | (go_at_call 26; (with_reducible refine (need_yes _ _ _).mono ?_); rintro e w' ⟨rfl, rfl⟩))
    refine wp_quiet_tail 21 (by kernel_rfl) (by kernel_rfl) ?_
    simp only [List.take_succ_cons, List.take_zero, List.drop_succ_cons, List.drop_zero]
    repeat (go_big_quiet_step (fail))
    refine wpQuiet_nil ?_
    go_wp2_with (first | (go_at_call 26; (with_reducible refine (need_no cb f i _ _ (by simpa using c5) (by simpa using c6)).mono ?_); rintro e w' ⟨rfl, n, rfl⟩) | (go_at_call 26; (with_reducible refine (need_yes _ _ _).mono ?_); rintro e w' ⟨rfl, rfl⟩))
    refine ⟨rfl, ?_, _, rfl⟩
    rw [H'.out]; rfl
end Go.Proofs.YtgjdlloiiedpmaaLiftDoor
