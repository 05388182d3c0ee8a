/- 'CheckEach': the walk, a wrong thing at a time. No condition. -/
import Derived.Test.YtgjdlloiiedpmaaLiftDoorEachB
import Derived.Test.YtgjdlloiiedpmaaLiftDoorMkInts
import Derived.Test.YtgjdlloiiedpmaaLiftDoorRowF
import Derived.Test.YtgjdlloiiedpmaaLiftDoorSplit
import Derived.Deep.RegionLawGrows
namespace Go.Proofs.YtgjdlloiiedpmaaLiftDoor
open Go.RowKit

set_option maxRecDepth 100000 in
set_option maxHeartbeats 4000000 in
theorem each_0 (n : Int) (h1 : 1 ≤ n) (h2 : n ≤ 200) (w : World) (hg : ErrVar w) :
    Calls Tryl.prog 3 #[.int .i64 0, .int .i64 n] w fun e w' => e = .returned (.bool true) ∧ Kp No w w' := by
  have d1 : decide (n < 1) = false := decide_eq_false (by omega)
  have d2 : decide (200 < n) = false := decide_eq_false (by omega)
  have hS := each0
  try simp only [jobE] at hS
  go_enter Tryl.func3, Tryl.ntmps3
  go_wp2_with (first
    | (go_at_call 9; (with_reducible refine (alive_any _ hg).mono ?_); rintro e w1 ⟨rfl, hk⟩)
    | (go_at_call 10; (with_reducible refine (oneJ_blk _ _ _ _).mono ?_); rintro e w2 ⟨fb, rfl, hk2, hfb, hF⟩; have hC := hk2.blk (blk_new w1 _ _ rfl) (fun x => x); have K : Kp No w w2 := (hk.alloc _).trans hk2 (fun _ _ h => h); have n2 : w1.heap.size < fb := (by simp at hfb; omega); have n3 : fb < w2.heap.size := lt_of_block hF; have n4 : w1.heap.size < w2.heap.size := (by omega); have n1 := hk.size; clear hk hk2 hfb d1 d2; have f0 := cell_blk hF 0 rfl; have r0 := free_blk hF 0; have x0 := cell_blk hC 0 rfl; have s0 := free_blk hC 0; have f1 := cell_blk hF 1 rfl; have r1 := free_blk hF 1; have x1 := cell_blk hC 1 rfl; have s1 := free_blk hC 1; have f2 := cell_blk hF 2 rfl; have r2 := free_blk hF 2; have x2 := cell_blk hC 2 rfl; have s2 := free_blk hC 2; have f3 := cell_blk hF 3 rfl; have r3 := free_blk hF 3; have x3 := cell_blk hC 3 rfl; have s3 := free_blk hC 3)
    | (go_at_call 11; go_loud (refine (check_mk hS _ _ w _ hg (K.alloc _) (⟨FuncsAt.nil _ _, IntsAt.nil _ _⟩)).mono ?_); rintro e w' ⟨⟨rf, ri, rfl⟩, hk3⟩)
    | (go_at_call 12; (with_reducible refine (num_any _ _).mono ?_); rintro e w' ⟨rfl, rfl⟩))
  go_ret
  exact ⟨rfl, hk3⟩

set_option maxRecDepth 100000 in
set_option maxHeartbeats 4000000 in
theorem each_1 (n : Int) (h1 : 1 ≤ n) (h2 : n ≤ 200) (w : World) (hg : ErrVar w) :
    Calls Tryl.prog 3 #[.int .i64 1, .int .i64 n] w fun e w' => e = .returned (.bool true) ∧ Kp No w w' := by
  have d1 : decide (n < 1) = false := decide_eq_false (by omega)
  have d2 : decide (200 < n) = false := decide_eq_false (by omega)
  have hS := each1 h1
  try simp only [jobE] at hS
  go_enter Tryl.func3, Tryl.ntmps3
  go_wp2_with (first
    | (go_at_call 9; (with_reducible refine (alive_any _ hg).mono ?_); rintro e w1 ⟨rfl, hk⟩)
    | (go_at_call 10; (with_reducible refine (oneJ_blk _ _ _ _).mono ?_); rintro e w2 ⟨fb, rfl, hk2, hfb, hF⟩; have hC := hk2.blk (blk_new w1 _ _ rfl) (fun x => x); have K : Kp No w w2 := (hk.alloc _).trans hk2 (fun _ _ h => h); have n2 : w1.heap.size < fb := (by simp at hfb; omega); have n3 : fb < w2.heap.size := lt_of_block hF; have n4 : w1.heap.size < w2.heap.size := (by omega); have n1 := hk.size; clear hk hk2 hfb d1 d2; have f0 := cell_blk hF 0 rfl; have r0 := free_blk hF 0; have x0 := cell_blk hC 0 rfl; have s0 := free_blk hC 0; have f1 := cell_blk hF 1 rfl; have r1 := free_blk hF 1; have x1 := cell_blk hC 1 rfl; have s1 := free_blk hC 1; have f2 := cell_blk hF 2 rfl; have r2 := free_blk hF 2; have x2 := cell_blk hC 2 rfl; have s2 := free_blk hC 2; have f3 := cell_blk hF 3 rfl; have r3 := free_blk hF 3; have x3 := cell_blk hC 3 rfl; have s3 := free_blk hC 3)
    | (go_at_call 11; go_loud (refine (check_mk hS _ _ w _ hg (K.alloc _) (⟨funcs_one (blk_alloc hF _) (by decide) (code_two (blk_alloc hC _)), IntsAt.nil _ _⟩)).mono ?_); rintro e w' ⟨⟨rf, ri, rfl⟩, hk3⟩)
    | (go_at_call 12; (with_reducible refine (num_any _ _).mono ?_); rintro e w' ⟨rfl, rfl⟩))
  go_ret
  exact ⟨rfl, hk3⟩

set_option maxRecDepth 100000 in
set_option maxHeartbeats 4000000 in
theorem each_2 (n : Int) (h1 : 1 ≤ n) (h2 : n ≤ 200) (w : World) (hg : ErrVar w) :
    Calls Tryl.prog 3 #[.int .i64 2, .int .i64 n] w fun e w' => e = .returned (.bool true) ∧ Kp No w w' := by
  have d1 : decide (n < 1) = false := decide_eq_false (by omega)
  have d2 : decide (200 < n) = false := decide_eq_false (by omega)
  have hS := each2 h1
  try simp only [jobE] at hS
  go_enter Tryl.func3, Tryl.ntmps3
  go_wp2_with (first
    | (go_at_call 9; (with_reducible refine (alive_any _ hg).mono ?_); rintro e w1 ⟨rfl, hk⟩)
    | (go_at_call 10; (with_reducible refine (oneJ_blk _ _ _ _).mono ?_); rintro e w2 ⟨fb, rfl, hk2, hfb, hF⟩; have hC := hk2.blk (blk_new w1 _ _ rfl) (fun x => x); have K : Kp No w w2 := (hk.alloc _).trans hk2 (fun _ _ h => h); have n2 : w1.heap.size < fb := (by simp at hfb; omega); have n3 : fb < w2.heap.size := lt_of_block hF; have n4 : w1.heap.size < w2.heap.size := (by omega); have n1 := hk.size; clear hk hk2 hfb d1 d2; have f0 := cell_blk hF 0 rfl; have r0 := free_blk hF 0; have x0 := cell_blk hC 0 rfl; have s0 := free_blk hC 0; have f1 := cell_blk hF 1 rfl; have r1 := free_blk hF 1; have x1 := cell_blk hC 1 rfl; have s1 := free_blk hC 1; have f2 := cell_blk hF 2 rfl; have r2 := free_blk hF 2; have x2 := cell_blk hC 2 rfl; have s2 := free_blk hC 2; have f3 := cell_blk hF 3 rfl; have r3 := free_blk hF 3; have x3 := cell_blk hC 3 rfl; have s3 := free_blk hC 3)
    | (go_at_call 11; go_loud (refine (check_mk hS _ _ w _ hg (K.alloc _) (⟨funcs_one (blk_alloc hF _) (by decide) (code_two (blk_alloc hC _)), IntsAt.nil _ _⟩)).mono ?_); rintro e w' ⟨⟨rf, ri, rfl⟩, hk3⟩)
    | (go_at_call 12; (with_reducible refine (num_any _ _).mono ?_); rintro e w' ⟨rfl, rfl⟩))
  go_ret
  exact ⟨rfl, hk3⟩

set_option maxRecDepth 100000 in
set_option maxHeartbeats 4000000 in
theorem each_3 (n : Int) (h1 : 1 ≤ n) (h2 : n ≤ 200) (w : World) (hg : ErrVar w) :
    Calls Tryl.prog 3 #[.int .i64 3, .int .i64 n] w fun e w' => e = .returned (.bool true) ∧ Kp No w w' := by
  have d1 : decide (n < 1) = false := decide_eq_false (by omega)
  have d2 : decide (200 < n) = false := decide_eq_false (by omega)
  have hS := each3 h1
  try simp only [jobE] at hS
  go_enter Tryl.func3, Tryl.ntmps3
  go_wp2_with (first
    | (go_at_call 9; (with_reducible refine (alive_any _ hg).mono ?_); rintro e w1 ⟨rfl, hk⟩)
    | (go_at_call 10; (with_reducible refine (oneJ_blk _ _ _ _).mono ?_); rintro e w2 ⟨fb, rfl, hk2, hfb, hF⟩; have hC := hk2.blk (blk_new w1 _ _ rfl) (fun x => x); have K : Kp No w w2 := (hk.alloc _).trans hk2 (fun _ _ h => h); have n2 : w1.heap.size < fb := (by simp at hfb; omega); have n3 : fb < w2.heap.size := lt_of_block hF; have n4 : w1.heap.size < w2.heap.size := (by omega); have n1 := hk.size; clear hk hk2 hfb d1 d2; have f0 := cell_blk hF 0 rfl; have r0 := free_blk hF 0; have x0 := cell_blk hC 0 rfl; have s0 := free_blk hC 0; have f1 := cell_blk hF 1 rfl; have r1 := free_blk hF 1; have x1 := cell_blk hC 1 rfl; have s1 := free_blk hC 1; have f2 := cell_blk hF 2 rfl; have r2 := free_blk hF 2; have x2 := cell_blk hC 2 rfl; have s2 := free_blk hC 2; have f3 := cell_blk hF 3 rfl; have r3 := free_blk hF 3; have x3 := cell_blk hC 3 rfl; have s3 := free_blk hC 3)
    | (go_at_call 11; go_loud (refine (check_mk hS _ _ w _ hg (K.alloc _) (⟨funcs_one (blk_alloc hF _) (by decide) (code_two (blk_alloc hC _)), IntsAt.nil _ _⟩)).mono ?_); rintro e w' ⟨⟨rf, ri, rfl⟩, hk3⟩)
    | (go_at_call 12; (with_reducible refine (num_any _ _).mono ?_); rintro e w' ⟨rfl, rfl⟩))
  go_ret
  exact ⟨rfl, hk3⟩

set_option maxRecDepth 100000 in
set_option maxHeartbeats 4000000 in
theorem each_4 (n : Int) (h1 : 1 ≤ n) (h2 : n ≤ 200) (w : World) (hg : ErrVar w) :
    Calls Tryl.prog 3 #[.int .i64 4, .int .i64 n] w fun e w' => e = .returned (.bool true) ∧ Kp No w w' := by
  obtain ⟨m, rfl⟩ : ∃ m : Nat, n = m := ⟨n.toNat, by omega⟩
  have hm : m ≤ 200 := by omega
  have d1 : decide ((m : Int) < 1) = false := decide_eq_false (by omega)
  have d2 : decide (200 < (m : Int)) = false := decide_eq_false (by omega)
  have hS := each4 (n := m) h1 (List.replicate m 0) (by simp)
  try simp only [jobE] at hS
  go_enter Tryl.func3, Tryl.ntmps3
  go_wp2_with (first
    | (go_at_call 9; (with_reducible refine (alive_any _ hg).mono ?_); rintro e w1 ⟨rfl, hk⟩)
    | (go_at_call 10; (with_reducible refine (oneJ_blk _ _ _ _).mono ?_); rintro e w2 ⟨fb, rfl, hk2, hfb, hF⟩; have hC := hk2.blk (blk_new w1 _ _ rfl) (fun x => x); have K : Kp No w w2 := (hk.alloc _).trans hk2 (fun _ _ h => h); have n2 : w1.heap.size < fb := (by simp at hfb; omega); have n3 : fb < w2.heap.size := lt_of_block hF; have n4 : w1.heap.size < w2.heap.size := (by omega); have n1 := hk.size; clear hk hk2 hfb d1 d2; have f0 := cell_blk hF 0 rfl; have r0 := free_blk hF 0; have x0 := cell_blk hC 0 rfl; have s0 := free_blk hC 0; have f1 := cell_blk hF 1 rfl; have r1 := free_blk hF 1; have x1 := cell_blk hC 1 rfl; have s1 := free_blk hC 1; have f2 := cell_blk hF 2 rfl; have r2 := free_blk hF 2; have x2 := cell_blk hC 2 rfl; have s2 := free_blk hC 2; have f3 := cell_blk hF 3 rfl; have r3 := free_blk hF 3; have x3 := cell_blk hC 3 rfl; have s3 := free_blk hC 3)
    | (at_make; go_loud (refine list_mkInts _ rfl rfl m _ rfl (by simp) (by omega) (w2.heap.size + 1) (by simp) ?_); intro w4 hk4 hcell hlt4; have hJb := hk4.blk (blk_new w2 _ w2.heap.size (by simp)) (fun x => x); have j0 := cell_blk hJb 0 rfl; have t0 := free_blk hJb 0; have j1 := cell_blk hJb 1 rfl; have t1 := free_blk hJb 1; have j2 := cell_blk hJb 2 rfl; have t2 := free_blk hJb 2; have j3 := cell_blk hJb 3 rfl; have t3 := free_blk hJb 3; have j4 := cell_blk hJb 4 rfl; have t4 := free_blk hJb 4)
    | (go_at_call 11; go_loud (refine (check_mk hS _ _ w _ hg (((K.alloc _).trans hk4 (fun _ _ h => h)).setNew _ _ _ (by omega)) (⟨funcs_one (blk_other (hk4.blk (blk_alloc hF _) (fun x => x)) _ (Nat.ne_of_lt n3) _) (by decide) (code_two (blk_other (hk4.blk (blk_alloc hC _) (fun x => x)) _ (Nat.ne_of_lt n4) _)), ints_new (fun j hj => ((Kp.refl (fun b => b = w2.heap.size) _).setCell _ _ (fun _ => rfl)).cell (hcell j hj) (by simp)) (by simpa [World.setCell] using hlt4) (by omega)⟩)).mono ?_); rintro e w' ⟨⟨rf, ri, rfl⟩, hk3⟩)
    | (go_at_call 12; (with_reducible refine (num_any _ _).mono ?_); rintro e w' ⟨rfl, rfl⟩))
  go_ret
  exact ⟨rfl, hk3⟩

set_option maxRecDepth 100000 in
set_option maxHeartbeats 4000000 in
theorem each_5 (n : Int) (h1 : 1 ≤ n) (h2 : n ≤ 200) (w : World) (hg : ErrVar w) :
    Calls Tryl.prog 3 #[.int .i64 5, .int .i64 n] w fun e w' => e = .returned (.bool true) ∧ Kp No w w' := by
  have d1 : decide (n < 1) = false := decide_eq_false (by omega)
  have d2 : decide (200 < n) = false := decide_eq_false (by omega)
  have hS := each5
  try simp only [jobE] at hS
  go_enter Tryl.func3, Tryl.ntmps3
  go_wp2_with (first
    | (go_at_call 9; (with_reducible refine (alive_any _ hg).mono ?_); rintro e w1 ⟨rfl, hk⟩)
    | (go_at_call 10; (with_reducible refine (oneJ_blk _ _ _ _).mono ?_); rintro e w2 ⟨fb, rfl, hk2, hfb, hF⟩; have hC := hk2.blk (blk_new w1 _ _ rfl) (fun x => x); have K : Kp No w w2 := (hk.alloc _).trans hk2 (fun _ _ h => h); have n2 : w1.heap.size < fb := (by simp at hfb; omega); have n3 : fb < w2.heap.size := lt_of_block hF; have n4 : w1.heap.size < w2.heap.size := (by omega); have n1 := hk.size; clear hk hk2 hfb d1 d2; have f0 := cell_blk hF 0 rfl; have r0 := free_blk hF 0; have x0 := cell_blk hC 0 rfl; have s0 := free_blk hC 0; have f1 := cell_blk hF 1 rfl; have r1 := free_blk hF 1; have x1 := cell_blk hC 1 rfl; have s1 := free_blk hC 1; have f2 := cell_blk hF 2 rfl; have r2 := free_blk hF 2; have x2 := cell_blk hC 2 rfl; have s2 := free_blk hC 2; have f3 := cell_blk hF 3 rfl; have r3 := free_blk hF 3; have x3 := cell_blk hC 3 rfl; have s3 := free_blk hC 3)
    | (go_at_call 11; go_loud (refine (check_mk hS _ _ w _ hg ((K.setNew _ _ _ (by omega)).alloc _) (⟨funcs_one (blk_alloc (blk_set hF 0 _ rfl) _) (by decide) (code_two (blk_alloc (blk_other hC _ (Nat.ne_of_lt n2) _) _)), IntsAt.nil _ _⟩)).mono ?_); rintro e w' ⟨⟨rf, ri, rfl⟩, hk3⟩)
    | (go_at_call 12; (with_reducible refine (num_any _ _).mono ?_); rintro e w' ⟨rfl, rfl⟩))
  go_ret
  exact ⟨rfl, hk3⟩

set_option maxRecDepth 100000 in
set_option maxHeartbeats 4000000 in
theorem each_6 (n : Int) (h1 : 1 ≤ n) (h2 : n ≤ 200) (w : World) (hg : ErrVar w) :
    Calls Tryl.prog 3 #[.int .i64 6, .int .i64 n] w fun e w' => e = .returned (.bool true) ∧ Kp No w w' := by
  obtain ⟨m, rfl⟩ : ∃ m : Nat, n = m := ⟨n.toNat, by omega⟩
  have hm : m ≤ 200 := by omega
  have d1 : decide ((m : Int) < 1) = false := decide_eq_false (by omega)
  have d2 : decide (200 < (m : Int)) = false := decide_eq_false (by omega)
  have hS := each6 (n := m) h1 (List.replicate (8 + m) 0) (by simp)
  try simp only [jobE] at hS
  go_enter Tryl.func3, Tryl.ntmps3
  go_wp2_with (first
    | (go_at_call 9; (with_reducible refine (alive_any _ hg).mono ?_); rintro e w1 ⟨rfl, hk⟩)
    | (go_at_call 10; (with_reducible refine (oneJ_blk _ _ _ _).mono ?_); rintro e w2 ⟨fb, rfl, hk2, hfb, hF⟩; have hC := hk2.blk (blk_new w1 _ _ rfl) (fun x => x); have K : Kp No w w2 := (hk.alloc _).trans hk2 (fun _ _ h => h); have n2 : w1.heap.size < fb := (by simp at hfb; omega); have n3 : fb < w2.heap.size := lt_of_block hF; have n4 : w1.heap.size < w2.heap.size := (by omega); have n1 := hk.size; clear hk hk2 hfb d1 d2; have f0 := cell_blk hF 0 rfl; have r0 := free_blk hF 0; have x0 := cell_blk hC 0 rfl; have s0 := free_blk hC 0; have f1 := cell_blk hF 1 rfl; have r1 := free_blk hF 1; have x1 := cell_blk hC 1 rfl; have s1 := free_blk hC 1; have f2 := cell_blk hF 2 rfl; have r2 := free_blk hF 2; have x2 := cell_blk hC 2 rfl; have s2 := free_blk hC 2; have f3 := cell_blk hF 3 rfl; have r3 := free_blk hF 3; have x3 := cell_blk hC 3 rfl; have s3 := free_blk hC 3)
    | (at_make; go_loud (refine list_mkInts _ rfl rfl (8 + m) _ rfl (by simp) (by omega) (w2.heap.size + 1) (by simp) ?_); intro w4 hk4 hcell hlt4; have hJb := hk4.blk (blk_new (w2.setCell _ _) _ w2.heap.size (by simp)) (fun x => x); have j0 := cell_blk hJb 0 rfl; have t0 := free_blk hJb 0; have j1 := cell_blk hJb 1 rfl; have t1 := free_blk hJb 1; have j2 := cell_blk hJb 2 rfl; have t2 := free_blk hJb 2; have j3 := cell_blk hJb 3 rfl; have t3 := free_blk hJb 3; have j4 := cell_blk hJb 4 rfl; have t4 := free_blk hJb 4)
    | (go_at_call 11; go_loud (refine (check_mk hS _ _ w _ hg ((((K.setNew _ _ _ (by omega)).alloc _).trans hk4 (fun _ _ h => h)).setNew _ _ _ (by omega)) (⟨funcs_one (blk_other (hk4.blk (blk_alloc (blk_set hF 1 _ rfl) _) (fun x => x)) _ (Nat.ne_of_lt n3) _) (by decide) (code_two (blk_other (hk4.blk (blk_alloc (blk_other hC _ (Nat.ne_of_lt n2) _) _) (fun x => x)) _ (Nat.ne_of_lt n4) _)), ints_new (fun j hj => ((Kp.refl (fun b => b = w2.heap.size) _).setCell _ _ (fun _ => rfl)).cell (hcell j hj) (by simp)) (by simpa [World.setCell] using hlt4) (by omega)⟩)).mono ?_); rintro e w' ⟨⟨rf, ri, rfl⟩, hk3⟩)
    | (go_at_call 12; (with_reducible refine (num_any _ _).mono ?_); rintro e w' ⟨rfl, rfl⟩))
  go_ret
  exact ⟨rfl, hk3⟩

set_option maxRecDepth 100000 in
set_option maxHeartbeats 4000000 in
theorem each_7 (n : Int) (h1 : 1 ≤ n) (h2 : n ≤ 200) (w : World) (hg : ErrVar w) :
    Calls Tryl.prog 3 #[.int .i64 7, .int .i64 n] w fun e w' => e = .returned (.bool true) ∧ Kp No w w' := by
  have d1 : decide (n < 1) = false := decide_eq_false (by omega)
  have d2 : decide (200 < n) = false := decide_eq_false (by omega)
  have hS := each7 h1
  try simp only [jobE] at hS
  go_enter Tryl.func3, Tryl.ntmps3
  go_wp2_with (first
    | (go_at_call 9; (with_reducible refine (alive_any _ hg).mono ?_); rintro e w1 ⟨rfl, hk⟩)
    | (go_at_call 10; (with_reducible refine (oneJ_blk _ _ _ _).mono ?_); rintro e w2 ⟨fb, rfl, hk2, hfb, hF⟩; have hC := hk2.blk (blk_new w1 _ _ rfl) (fun x => x); have K : Kp No w w2 := (hk.alloc _).trans hk2 (fun _ _ h => h); have n2 : w1.heap.size < fb := (by simp at hfb; omega); have n3 : fb < w2.heap.size := lt_of_block hF; have n4 : w1.heap.size < w2.heap.size := (by omega); have n1 := hk.size; clear hk hk2 hfb d1 d2; have f0 := cell_blk hF 0 rfl; have r0 := free_blk hF 0; have x0 := cell_blk hC 0 rfl; have s0 := free_blk hC 0; have f1 := cell_blk hF 1 rfl; have r1 := free_blk hF 1; have x1 := cell_blk hC 1 rfl; have s1 := free_blk hC 1; have f2 := cell_blk hF 2 rfl; have r2 := free_blk hF 2; have x2 := cell_blk hC 2 rfl; have s2 := free_blk hC 2; have f3 := cell_blk hF 3 rfl; have r3 := free_blk hF 3; have x3 := cell_blk hC 3 rfl; have s3 := free_blk hC 3)
    | (go_at_call 11; go_loud (refine (check_mk hS _ _ w _ hg ((K.setNew _ _ _ (by omega)).alloc _) (⟨funcs_one (blk_alloc (blk_set hF 2 _ rfl) _) (by decide) (code_two (blk_alloc (blk_other hC _ (Nat.ne_of_lt n2) _) _)), IntsAt.nil _ _⟩)).mono ?_); rintro e w' ⟨⟨rf, ri, rfl⟩, hk3⟩)
    | (go_at_call 12; (with_reducible refine (num_any _ _).mono ?_); rintro e w' ⟨rfl, rfl⟩))
  go_ret
  exact ⟨rfl, hk3⟩

set_option maxRecDepth 100000 in
set_option maxHeartbeats 4000000 in
theorem each_8 (n : Int) (h1 : 1 ≤ n) (h2 : n ≤ 200) (w : World) (hg : ErrVar w) :
    Calls Tryl.prog 3 #[.int .i64 8, .int .i64 n] w fun e w' => e = .returned (.bool true) ∧ Kp No w w' := by
  have d1 : decide (n < 1) = false := decide_eq_false (by omega)
  have d2 : decide (200 < n) = false := decide_eq_false (by omega)
  have hS := each8
  try simp only [jobE] at hS
  go_enter Tryl.func3, Tryl.ntmps3
  go_wp2_with (first
    | (go_at_call 9; (with_reducible refine (alive_any _ hg).mono ?_); rintro e w1 ⟨rfl, hk⟩)
    | (go_at_call 10; (with_reducible refine (oneJ_blk _ _ _ _).mono ?_); rintro e w2 ⟨fb, rfl, hk2, hfb, hF⟩; have hC := hk2.blk (blk_new w1 _ _ rfl) (fun x => x); have K : Kp No w w2 := (hk.alloc _).trans hk2 (fun _ _ h => h); have n2 : w1.heap.size < fb := (by simp at hfb; omega); have n3 : fb < w2.heap.size := lt_of_block hF; have n4 : w1.heap.size < w2.heap.size := (by omega); have n1 := hk.size; clear hk hk2 hfb d1 d2; have f0 := cell_blk hF 0 rfl; have r0 := free_blk hF 0; have x0 := cell_blk hC 0 rfl; have s0 := free_blk hC 0; have f1 := cell_blk hF 1 rfl; have r1 := free_blk hF 1; have x1 := cell_blk hC 1 rfl; have s1 := free_blk hC 1; have f2 := cell_blk hF 2 rfl; have r2 := free_blk hF 2; have x2 := cell_blk hC 2 rfl; have s2 := free_blk hC 2; have f3 := cell_blk hF 3 rfl; have r3 := free_blk hF 3; have x3 := cell_blk hC 3 rfl; have s3 := free_blk hC 3)
    | (go_at_call 11; go_loud (refine (check_mk hS _ _ w _ hg ((K.setNew _ _ _ (by omega)).alloc _) (⟨funcs_one (blk_alloc (blk_set hF 3 _ rfl) _) (by decide) (CodeAt.nil _ _), IntsAt.nil _ _⟩)).mono ?_); rintro e w' ⟨⟨rf, ri, rfl⟩, hk3⟩)
    | (go_at_call 12; (with_reducible refine (num_any _ _).mono ?_); rintro e w' ⟨rfl, rfl⟩))
  go_ret
  exact ⟨rfl, hk3⟩

set_option maxRecDepth 100000 in
set_option maxHeartbeats 4000000 in
theorem each_9 (n : Int) (h1 : 1 ≤ n) (h2 : n ≤ 200) (w : World) (hg : ErrVar w) :
    Calls Tryl.prog 3 #[.int .i64 9, .int .i64 n] w fun e w' => e = .returned (.bool true) ∧ Kp No w w' := by
  have d1 : decide (n < 1) = false := decide_eq_false (by omega)
  have d2 : decide (200 < n) = false := decide_eq_false (by omega)
  have hS := each9 h1
  try simp only [jobE] at hS
  go_enter Tryl.func3, Tryl.ntmps3
  go_wp2_with (first
    | (go_at_call 9; (with_reducible refine (alive_any _ hg).mono ?_); rintro e w1 ⟨rfl, hk⟩)
    | (go_at_call 10; (with_reducible refine (oneJ_blk _ _ _ _).mono ?_); rintro e w2 ⟨fb, rfl, hk2, hfb, hF⟩; have hC := hk2.blk (blk_new w1 _ _ rfl) (fun x => x); have K : Kp No w w2 := (hk.alloc _).trans hk2 (fun _ _ h => h); have n2 : w1.heap.size < fb := (by simp at hfb; omega); have n3 : fb < w2.heap.size := lt_of_block hF; have n4 : w1.heap.size < w2.heap.size := (by omega); have n1 := hk.size; clear hk hk2 hfb d1 d2; have f0 := cell_blk hF 0 rfl; have r0 := free_blk hF 0; have x0 := cell_blk hC 0 rfl; have s0 := free_blk hC 0; have f1 := cell_blk hF 1 rfl; have r1 := free_blk hF 1; have x1 := cell_blk hC 1 rfl; have s1 := free_blk hC 1; have f2 := cell_blk hF 2 rfl; have r2 := free_blk hF 2; have x2 := cell_blk hC 2 rfl; have s2 := free_blk hC 2; have f3 := cell_blk hF 3 rfl; have r3 := free_blk hF 3; have x3 := cell_blk hC 3 rfl; have s3 := free_blk hC 3)
    | (go_at_call 11; go_loud (refine (check_mk hS _ _ w _ hg ((K.setNew _ _ _ (by omega)).alloc _) (⟨funcs_one (blk_alloc (blk_other hF _ (Nat.ne_of_gt n2) _) _) (by decide) (code_two (blk_alloc (blk_set hC 0 _ rfl) _)), IntsAt.nil _ _⟩)).mono ?_); rintro e w' ⟨⟨rf, ri, rfl⟩, hk3⟩)
    | (go_at_call 12; (with_reducible refine (num_any _ _).mono ?_); rintro e w' ⟨rfl, rfl⟩))
  go_ret
  exact ⟨rfl, hk3⟩

set_option maxRecDepth 100000 in
set_option maxHeartbeats 4000000 in
theorem each_10 (n : Int) (h1 : 1 ≤ n) (h2 : n ≤ 200) (w : World) (hg : ErrVar w) :
    Calls Tryl.prog 3 #[.int .i64 10, .int .i64 n] w fun e w' => e = .returned (.bool true) ∧ Kp No w w' := by
  have d1 : decide (n < 1) = false := decide_eq_false (by omega)
  have d2 : decide (200 < n) = false := decide_eq_false (by omega)
  have hS := each10 h1
  try simp only [jobE] at hS
  go_enter Tryl.func3, Tryl.ntmps3
  go_wp2_with (first
    | (go_at_call 9; (with_reducible refine (alive_any _ hg).mono ?_); rintro e w1 ⟨rfl, hk⟩)
    | (go_at_call 10; (with_reducible refine (oneJ_blk _ _ _ _).mono ?_); rintro e w2 ⟨fb, rfl, hk2, hfb, hF⟩; have hC := hk2.blk (blk_new w1 _ _ rfl) (fun x => x); have K : Kp No w w2 := (hk.alloc _).trans hk2 (fun _ _ h => h); have n2 : w1.heap.size < fb := (by simp at hfb; omega); have n3 : fb < w2.heap.size := lt_of_block hF; have n4 : w1.heap.size < w2.heap.size := (by omega); have n1 := hk.size; clear hk hk2 hfb d1 d2; have f0 := cell_blk hF 0 rfl; have r0 := free_blk hF 0; have x0 := cell_blk hC 0 rfl; have s0 := free_blk hC 0; have f1 := cell_blk hF 1 rfl; have r1 := free_blk hF 1; have x1 := cell_blk hC 1 rfl; have s1 := free_blk hC 1; have f2 := cell_blk hF 2 rfl; have r2 := free_blk hF 2; have x2 := cell_blk hC 2 rfl; have s2 := free_blk hC 2; have f3 := cell_blk hF 3 rfl; have r3 := free_blk hF 3; have x3 := cell_blk hC 3 rfl; have s3 := free_blk hC 3)
    | (go_at_call 11; go_loud (refine (check_mk hS _ _ w _ hg ((K.setNew _ _ _ (by omega)).alloc _) (⟨funcs_one (blk_alloc (blk_other hF _ (Nat.ne_of_gt n2) _) _) (by decide) (code_two (blk_alloc (blk_set hC 3 _ rfl) _)), IntsAt.nil _ _⟩)).mono ?_); rintro e w' ⟨⟨rf, ri, rfl⟩, hk3⟩)
    | (go_at_call 12; (with_reducible refine (num_any _ _).mono ?_); rintro e w' ⟨rfl, rfl⟩))
  go_ret
  exact ⟨rfl, hk3⟩

set_option maxRecDepth 100000 in
set_option maxHeartbeats 4000000 in
theorem each_11 (n : Int) (h1 : 1 ≤ n) (h2 : n ≤ 200) (w : World) (hg : ErrVar w) :
    Calls Tryl.prog 3 #[.int .i64 11, .int .i64 n] w fun e w' => e = .returned (.bool true) ∧ Kp No w w' := by
  have d1 : decide (n < 1) = false := decide_eq_false (by omega)
  have d2 : decide (200 < n) = false := decide_eq_false (by omega)
  have hS := each11 (n := n)
  try simp only [jobE] at hS
  go_enter Tryl.func3, Tryl.ntmps3
  go_wp2_with (first
    | (go_at_call 9; (with_reducible refine (alive_any _ hg).mono ?_); rintro e w1 ⟨rfl, hk⟩)
    | (go_at_call 10; (with_reducible refine (oneJ_blk _ _ _ _).mono ?_); rintro e w2 ⟨fb, rfl, hk2, hfb, hF⟩; have hC := hk2.blk (blk_new w1 _ _ rfl) (fun x => x); have K : Kp No w w2 := (hk.alloc _).trans hk2 (fun _ _ h => h); have n2 : w1.heap.size < fb := (by simp at hfb; omega); have n3 : fb < w2.heap.size := lt_of_block hF; have n4 : w1.heap.size < w2.heap.size := (by omega); have n1 := hk.size; clear hk hk2 hfb d1 d2; have f0 := cell_blk hF 0 rfl; have r0 := free_blk hF 0; have x0 := cell_blk hC 0 rfl; have s0 := free_blk hC 0; have f1 := cell_blk hF 1 rfl; have r1 := free_blk hF 1; have x1 := cell_blk hC 1 rfl; have s1 := free_blk hC 1; have f2 := cell_blk hF 2 rfl; have r2 := free_blk hF 2; have x2 := cell_blk hC 2 rfl; have s2 := free_blk hC 2; have f3 := cell_blk hF 3 rfl; have r3 := free_blk hF 3; have x3 := cell_blk hC 3 rfl; have s3 := free_blk hC 3)
    | (go_at_call 11; go_loud (refine (check_mk hS _ _ w _ hg (((K.setNew _ _ _ (by omega)).setNew _ _ _ (by omega)).alloc _) (⟨funcs_one (blk_alloc (blk_other (blk_other hF _ (Nat.ne_of_gt n2) _) _ (Nat.ne_of_gt n2) _) _) (by decide) (code_two (blk_alloc (blk_set (blk_set hC 0 _ rfl) 1 _ rfl) _)), IntsAt.nil _ _⟩)).mono ?_); rintro e w' ⟨⟨rf, ri, rfl⟩, hk3⟩)
    | (go_at_call 12; (with_reducible refine (num_any _ _).mono ?_); rintro e w' ⟨rfl, rfl⟩))
  go_ret
  exact ⟨rfl, hk3⟩

set_option maxRecDepth 100000 in
set_option maxHeartbeats 4000000 in
theorem each_12 (n : Int) (h1 : 1 ≤ n) (h2 : n ≤ 200) (w : World) (hg : ErrVar w) :
    Calls Tryl.prog 3 #[.int .i64 12, .int .i64 n] w fun e w' => e = .returned (.bool true) ∧ Kp No w w' := by
  have d1 : decide (n < 1) = false := decide_eq_false (by omega)
  have d2 : decide (200 < n) = false := decide_eq_false (by omega)
  have hS := each12 h1
  try simp only [jobE] at hS
  go_enter Tryl.func3, Tryl.ntmps3
  go_wp2_with (first
    | (go_at_call 9; (with_reducible refine (alive_any _ hg).mono ?_); rintro e w1 ⟨rfl, hk⟩)
    | (go_at_call 10; (with_reducible refine (oneJ_blk _ _ _ _).mono ?_); rintro e w2 ⟨fb, rfl, hk2, hfb, hF⟩; have hC := hk2.blk (blk_new w1 _ _ rfl) (fun x => x); have K : Kp No w w2 := (hk.alloc _).trans hk2 (fun _ _ h => h); have n2 : w1.heap.size < fb := (by simp at hfb; omega); have n3 : fb < w2.heap.size := lt_of_block hF; have n4 : w1.heap.size < w2.heap.size := (by omega); have n1 := hk.size; clear hk hk2 hfb d1 d2; have f0 := cell_blk hF 0 rfl; have r0 := free_blk hF 0; have x0 := cell_blk hC 0 rfl; have s0 := free_blk hC 0; have f1 := cell_blk hF 1 rfl; have r1 := free_blk hF 1; have x1 := cell_blk hC 1 rfl; have s1 := free_blk hC 1; have f2 := cell_blk hF 2 rfl; have r2 := free_blk hF 2; have x2 := cell_blk hC 2 rfl; have s2 := free_blk hC 2; have f3 := cell_blk hF 3 rfl; have r3 := free_blk hF 3; have x3 := cell_blk hC 3 rfl; have s3 := free_blk hC 3)
    | (go_at_call 11; go_loud (refine (check_mk hS _ _ w _ hg (((K.setNew _ _ _ (by omega)).setNew _ _ _ (by omega)).alloc _) (⟨funcs_one (blk_alloc (blk_other (blk_other hF _ (Nat.ne_of_gt n2) _) _ (Nat.ne_of_gt n2) _) _) (by decide) (code_two (blk_alloc (blk_set (blk_set hC 0 _ rfl) 1 _ rfl) _)), IntsAt.nil _ _⟩)).mono ?_); rintro e w' ⟨⟨rf, ri, rfl⟩, hk3⟩)
    | (go_at_call 12; (with_reducible refine (num_any _ _).mono ?_); rintro e w' ⟨rfl, rfl⟩))
  go_ret
  exact ⟨rfl, hk3⟩

set_option maxRecDepth 100000 in
set_option maxHeartbeats 4000000 in
theorem each_13 (n : Int) (h1 : 1 ≤ n) (h2 : n ≤ 200) (w : World) (hg : ErrVar w) :
    Calls Tryl.prog 3 #[.int .i64 13, .int .i64 n] w fun e w' => e = .returned (.bool true) ∧ Kp No w w' := by
  have d1 : decide (n < 1) = false := decide_eq_false (by omega)
  have d2 : decide (200 < n) = false := decide_eq_false (by omega)
  have hS := each13 h1
  try simp only [jobE] at hS
  go_enter Tryl.func3, Tryl.ntmps3
  go_wp2_with (first
    | (go_at_call 9; (with_reducible refine (alive_any _ hg).mono ?_); rintro e w1 ⟨rfl, hk⟩)
    | (go_at_call 10; (with_reducible refine (oneJ_blk _ _ _ _).mono ?_); rintro e w2 ⟨fb, rfl, hk2, hfb, hF⟩; have hC := hk2.blk (blk_new w1 _ _ rfl) (fun x => x); have K : Kp No w w2 := (hk.alloc _).trans hk2 (fun _ _ h => h); have n2 : w1.heap.size < fb := (by simp at hfb; omega); have n3 : fb < w2.heap.size := lt_of_block hF; have n4 : w1.heap.size < w2.heap.size := (by omega); have n1 := hk.size; clear hk hk2 hfb d1 d2; have f0 := cell_blk hF 0 rfl; have r0 := free_blk hF 0; have x0 := cell_blk hC 0 rfl; have s0 := free_blk hC 0; have f1 := cell_blk hF 1 rfl; have r1 := free_blk hF 1; have x1 := cell_blk hC 1 rfl; have s1 := free_blk hC 1; have f2 := cell_blk hF 2 rfl; have r2 := free_blk hF 2; have x2 := cell_blk hC 2 rfl; have s2 := free_blk hC 2; have f3 := cell_blk hF 3 rfl; have r3 := free_blk hF 3; have x3 := cell_blk hC 3 rfl; have s3 := free_blk hC 3)
    | (go_at_call 11; go_loud (refine (check_mk hS _ _ w _ hg (((K.setNew _ _ _ (by omega)).setNew _ _ _ (by omega)).alloc _) (⟨funcs_one (blk_alloc (blk_other (blk_other hF _ (Nat.ne_of_gt n2) _) _ (Nat.ne_of_gt n2) _) _) (by decide) (code_two (blk_alloc (blk_set (blk_set hC 0 _ rfl) 1 _ rfl) _)), IntsAt.nil _ _⟩)).mono ?_); rintro e w' ⟨⟨rf, ri, rfl⟩, hk3⟩)
    | (go_at_call 12; (with_reducible refine (num_any _ _).mono ?_); rintro e w' ⟨rfl, rfl⟩))
  go_ret
  exact ⟨rfl, hk3⟩

set_option maxRecDepth 100000 in
set_option maxHeartbeats 4000000 in
theorem each_14 (n : Int) (h1 : 1 ≤ n) (h2 : n ≤ 200) (w : World) (hg : ErrVar w) :
    Calls Tryl.prog 3 #[.int .i64 14, .int .i64 n] w fun e w' => e = .returned (.bool true) ∧ Kp No w w' := by
  have d1 : decide (n < 1) = false := decide_eq_false (by omega)
  have d2 : decide (200 < n) = false := decide_eq_false (by omega)
  have hS := each14
  try simp only [jobE] at hS
  go_enter Tryl.func3, Tryl.ntmps3
  go_wp2_with (first
    | (go_at_call 9; (with_reducible refine (alive_any _ hg).mono ?_); rintro e w1 ⟨rfl, hk⟩)
    | (go_at_call 10; (with_reducible refine (oneJ_blk _ _ _ _).mono ?_); rintro e w2 ⟨fb, rfl, hk2, hfb, hF⟩; have hC := hk2.blk (blk_new w1 _ _ rfl) (fun x => x); have K : Kp No w w2 := (hk.alloc _).trans hk2 (fun _ _ h => h); have n2 : w1.heap.size < fb := (by simp at hfb; omega); have n3 : fb < w2.heap.size := lt_of_block hF; have n4 : w1.heap.size < w2.heap.size := (by omega); have n1 := hk.size; clear hk hk2 hfb d1 d2; have f0 := cell_blk hF 0 rfl; have r0 := free_blk hF 0; have x0 := cell_blk hC 0 rfl; have s0 := free_blk hC 0; have f1 := cell_blk hF 1 rfl; have r1 := free_blk hF 1; have x1 := cell_blk hC 1 rfl; have s1 := free_blk hC 1; have f2 := cell_blk hF 2 rfl; have r2 := free_blk hF 2; have x2 := cell_blk hC 2 rfl; have s2 := free_blk hC 2; have f3 := cell_blk hF 3 rfl; have r3 := free_blk hF 3; have x3 := cell_blk hC 3 rfl; have s3 := free_blk hC 3)
    | (go_at_call 11; go_loud (refine (check_mk hS _ _ w _ hg ((K.setNew _ _ _ (by omega)).alloc _) (⟨funcs_one (blk_alloc (blk_set hF 3 _ rfl) _) (by decide) (code_head (y := ⟨18, 0⟩) (blk_alloc (blk_other hC _ (Nat.ne_of_lt n2) _) _)), IntsAt.nil _ _⟩)).mono ?_); rintro e w' ⟨⟨rf, ri, rfl⟩, hk3⟩)
    | (go_at_call 12; (with_reducible refine (num_any _ _).mono ?_); rintro e w' ⟨rfl, rfl⟩))
  go_ret
  exact ⟨rfl, hk3⟩

set_option maxRecDepth 100000 in
set_option maxHeartbeats 4000000 in
theorem each_15 (n : Int) (h1 : 1 ≤ n) (h2 : n ≤ 200) (w : World) (hg : ErrVar w) :
    Calls Tryl.prog 3 #[.int .i64 15, .int .i64 n] w fun e w' => e = .returned (.bool true) ∧ Kp No w w' := by
  have d1 : decide (n < 1) = false := decide_eq_false (by omega)
  have d2 : decide (200 < n) = false := decide_eq_false (by omega)
  have hS := each15
  try simp only [jobE] at hS
  go_enter Tryl.func3, Tryl.ntmps3
  go_wp2_with (first
    | (go_at_call 9; (with_reducible refine (alive_any _ hg).mono ?_); rintro e w1 ⟨rfl, hk⟩)
    | (go_at_call 10; (with_reducible refine (oneJ_blk _ _ _ _).mono ?_); rintro e w2 ⟨fb, rfl, hk2, hfb, hF⟩; have hC := hk2.blk (blk_new w1 _ _ rfl) (fun x => x); have K : Kp No w w2 := (hk.alloc _).trans hk2 (fun _ _ h => h); have n2 : w1.heap.size < fb := (by simp at hfb; omega); have n3 : fb < w2.heap.size := lt_of_block hF; have n4 : w1.heap.size < w2.heap.size := (by omega); have n1 := hk.size; clear hk hk2 hfb d1 d2; have f0 := cell_blk hF 0 rfl; have r0 := free_blk hF 0; have x0 := cell_blk hC 0 rfl; have s0 := free_blk hC 0; have f1 := cell_blk hF 1 rfl; have r1 := free_blk hF 1; have x1 := cell_blk hC 1 rfl; have s1 := free_blk hC 1; have f2 := cell_blk hF 2 rfl; have r2 := free_blk hF 2; have x2 := cell_blk hC 2 rfl; have s2 := free_blk hC 2; have f3 := cell_blk hF 3 rfl; have r3 := free_blk hF 3; have x3 := cell_blk hC 3 rfl; have s3 := free_blk hC 3)
    | (go_at_call 11; go_loud (refine (check_mk hS _ _ w _ hg (((K.setNew _ _ _ (by omega)).setNew _ _ _ (by omega)).alloc _) (⟨funcs_one (blk_alloc (blk_other (blk_other hF _ (Nat.ne_of_gt n2) _) _ (Nat.ne_of_gt n2) _) _) (by decide) (code_two (blk_alloc (blk_set (blk_set hC 0 _ rfl) 1 _ rfl) _)), IntsAt.nil _ _⟩)).mono ?_); rintro e w' ⟨⟨rf, ri, rfl⟩, hk3⟩)
    | (go_at_call 12; (with_reducible refine (num_any _ _).mono ?_); rintro e w' ⟨rfl, rfl⟩))
  go_ret
  exact ⟨rfl, hk3⟩

set_option maxRecDepth 100000 in
set_option maxHeartbeats 4000000 in
theorem each_16 (n : Int) (h1 : 1 ≤ n) (h2 : n ≤ 200) (w : World) (hg : ErrVar w) :
    Calls Tryl.prog 3 #[.int .i64 16, .int .i64 n] w fun e w' => e = .returned (.bool true) ∧ Kp No w w' := by
  have d1 : decide (n < 1) = false := decide_eq_false (by omega)
  have d2 : decide (200 < n) = false := decide_eq_false (by omega)
  have hS := each16
  try simp only [jobE] at hS
  go_enter Tryl.func3, Tryl.ntmps3
  go_wp2_with (first
    | (go_at_call 9; (with_reducible refine (alive_any _ hg).mono ?_); rintro e w1 ⟨rfl, hk⟩)
    | (go_at_call 10; (with_reducible refine (oneJ_blk _ _ _ _).mono ?_); rintro e w2 ⟨fb, rfl, hk2, hfb, hF⟩; have hC := hk2.blk (blk_new w1 _ _ rfl) (fun x => x); have K : Kp No w w2 := (hk.alloc _).trans hk2 (fun _ _ h => h); have n2 : w1.heap.size < fb := (by simp at hfb; omega); have n3 : fb < w2.heap.size := lt_of_block hF; have n4 : w1.heap.size < w2.heap.size := (by omega); have n1 := hk.size; clear hk hk2 hfb d1 d2; have f0 := cell_blk hF 0 rfl; have r0 := free_blk hF 0; have x0 := cell_blk hC 0 rfl; have s0 := free_blk hC 0; have f1 := cell_blk hF 1 rfl; have r1 := free_blk hF 1; have x1 := cell_blk hC 1 rfl; have s1 := free_blk hC 1; have f2 := cell_blk hF 2 rfl; have r2 := free_blk hF 2; have x2 := cell_blk hC 2 rfl; have s2 := free_blk hC 2; have f3 := cell_blk hF 3 rfl; have r3 := free_blk hF 3; have x3 := cell_blk hC 3 rfl; have s3 := free_blk hC 3)
    | (go_at_call 11; go_loud (refine (check_mk hS _ _ w _ hg (((K.setNew _ _ _ (by omega)).alloc _).alloc _) (⟨funcs_one (blk_alloc (blk_alloc (blk_set hF 3 _ rfl) _) _) (by decide) (code_two (blk_new _ _ _ (by simp))), IntsAt.nil _ _⟩)).mono ?_); rintro e w' ⟨⟨rf, ri, rfl⟩, hk3⟩)
    | (go_at_call 12; (with_reducible refine (num_any _ _).mono ?_); rintro e w' ⟨rfl, rfl⟩))
  go_ret
  exact ⟨rfl, hk3⟩

/-- A function's cells. -/
def fCells (cb : Nat) : List Value := [.string fName, .int .i64 0, .int .i64 0, .slice (some ⟨cb, 0, none⟩) 2 2]
theorem fCells_one (cb : Nat) : ∀ u ∈ fCells cb, u.oneCell' = true := by
  intro u hu
  simp only [fCells, List.mem_cons, List.mem_nil_iff, or_false] at hu
  rcases hu with rfl | rfl | rfl | rfl <;> rfl

set_option maxRecDepth 100000 in
set_option maxHeartbeats 4000000 in
theorem each_17 (n : Int) (h1 : 1 ≤ n) (h2 : n ≤ 200) (w : World) (hg : ErrVar w) :
    Calls Tryl.prog 3 #[.int .i64 17, .int .i64 n] w fun e w' => e = .returned (.bool true) ∧ Kp No w w' := by
  have d1 : decide (n < 1) = false := decide_eq_false (by omega)
  have d2 : decide (200 < n) = false := decide_eq_false (by omega)
  obtain ⟨i0, hi, hz0, hz1, hz2⟩ := info_parts infoFunc
  have hS := each17
  go_enter Tryl.func3, Tryl.ntmps3
  go_wp2_with (first
    | (go_at_call 9; (with_reducible refine (alive_any _ hg).mono ?_); rintro e w1 ⟨rfl, hk⟩)
    | (go_at_call 10; (with_reducible refine (oneJ_blk _ _ _ _).mono ?_); rintro e w2 ⟨fb, rfl, hk2, hfb, hF⟩; have hC := hk2.blk (blk_new w1 _ _ rfl) (fun x => x); have K : Kp No w w2 := (hk.alloc _).trans hk2 (fun _ _ h => h); have n2 : w1.heap.size < fb := (by simp at hfb; omega); have n3 : fb < w2.heap.size := lt_of_block hF; have n4 : w1.heap.size < w2.heap.size := (by omega); have n1 := hk.size; clear hk hk2 hfb d1 d2; have f0 := cell_blk hF 0 rfl; have r0 := free_blk hF 0; have f1 := cell_blk hF 1 rfl; have r1 := free_blk hF 1; have f2 := cell_blk hF 2 rfl; have r2 := free_blk hF 2; have f3 := cell_blk hF 3 rfl; have r3 := free_blk hF 3)
    | (fail))
  have hJb := blk_new w2 (.cells #[.slice (some ⟨fb, 0, none⟩) 1 1, .int .i64 0, .slice none 0 0, .int .i64 100, .int .i64 50] 26) w2.heap.size rfl
  have F1 := blk_alloc hF (.cells #[.slice (some ⟨fb, 0, none⟩) 1 1, .int .i64 0, .slice none 0 0, .int .i64 100, .int .i64 50] 26)
  have C1 := blk_alloc hC (.cells #[.slice (some ⟨fb, 0, none⟩) 1 1, .int .i64 0, .slice none 0 0, .int .i64 100, .int .i64 50] 26)
  have K1 : Kp No w (w2.alloc (.cells #[.slice (some ⟨fb, 0, none⟩) 1 1, .int .i64 0, .slice none 0 0, .int .i64 100, .int .i64 50] 26)) := K.alloc _
  generalize w2.alloc (.cells #[.slice (some ⟨fb, 0, none⟩) 1 1, .int .i64 0, .slice none 0 0, .int .i64 100, .int .i64 50] 26) = w3 at hJb F1 C1 K1 ⊢
  have j0 := cell_blk hJb 0 (v := .slice (some ⟨fb, 0, none⟩) 1 1) rfl
  have t0 := free_blk hJb 0
  have g0 := cell_blk F1 0 (v := .string fName) rfl
  have g1 := cell_blk F1 1 (v := .int .i64 0) rfl
  have g2 := cell_blk F1 2 (v := .int .i64 0) rfl
  have g3 := cell_blk F1 3 (v := .slice (some ⟨w1.heap.size, 0, none⟩) 2 2) rfl
  clear hF hC
  refine wp_region_head (S := (fun W => W.cell? ⟨w2.heap.size, 0, none⟩ = some (.slice (some ⟨fb, 0, none⟩) 1 1) ∧ W.cell? ⟨fb, 0, none⟩ = some (.string fName) ∧ W.cell? ⟨fb, 1, none⟩ = some (.int .i64 0) ∧ W.cell? ⟨fb, 2, none⟩ = some (.int .i64 0) ∧ W.cell? ⟨fb, 3, none⟩ = some (.slice (some ⟨w1.heap.size, 0, none⟩) 2 2))) 8 (by kernel_rfl) (by kernel_rfl) ⟨j0, g0, g1, g2, g3⟩ (fun hHeld => ?_)
  simp only [List.take_succ_cons, List.take_zero, List.drop_succ_cons, List.drop_zero]
  refine take_l 0 (.pointer (some ⟨w2.heap.size, 0, none⟩)) rfl (by kernel_rfl) (by kernel_rfl) (by kernel_rfl) (fun _ _ _ h => h) (by rfl) hHeld (fun W hS => ?_) ?_
  · obtain ⟨y0, y1, y2, y3, y4⟩ := hS
    go_simp
  try simp only [Act.put, List.setIfInBounds_toArray, List.set_cons_zero, List.set_cons_succ]
  refine take_l 1 (.slice (some ⟨fb, 0, none⟩) 1 1) rfl (by kernel_rfl) (by kernel_rfl) (by kernel_rfl) (fun _ _ _ h => h) (by rfl) hHeld (fun W hS => ?_) ?_
  · obtain ⟨y0, y1, y2, y3, y4⟩ := hS
    go_simp
  try simp only [Act.put, List.setIfInBounds_toArray, List.set_cons_zero, List.set_cons_succ]
  refine take_l 2 (.pointer (some ⟨w2.heap.size, 0, none⟩)) rfl (by kernel_rfl) (by kernel_rfl) (by kernel_rfl) (fun _ _ _ h => h) (by rfl) hHeld (fun W hS => ?_) ?_
  · obtain ⟨y0, y1, y2, y3, y4⟩ := hS
    go_simp
  try simp only [Act.put, List.setIfInBounds_toArray, List.set_cons_zero, List.set_cons_succ]
  refine take_l 3 (.slice (some ⟨fb, 0, none⟩) 1 1) rfl (by kernel_rfl) (by kernel_rfl) (by kernel_rfl) (fun _ _ _ h => h) (by rfl) hHeld (fun W hS => ?_) ?_
  · obtain ⟨y0, y1, y2, y3, y4⟩ := hS
    go_simp
  try simp only [Act.put, List.setIfInBounds_toArray, List.set_cons_zero, List.set_cons_succ]
  refine take_l 4 (.pointer (some ⟨fb, 0, none⟩)) rfl (by kernel_rfl) (by kernel_rfl) (by kernel_rfl) (fun _ _ _ h => h) (by rfl) hHeld (fun W hS => ?_) ?_
  · obtain ⟨y0, y1, y2, y3, y4⟩ := hS
    go_simp
  try simp only [Act.put, List.setIfInBounds_toArray, List.set_cons_zero, List.set_cons_succ]
  refine take_l 5 (.agg #[.string fName, .int .i64 0, .int .i64 0, .slice (some ⟨w1.heap.size, 0, none⟩) 2 2]) rfl (by kernel_rfl) (by kernel_rfl) (by kernel_rfl) (fun _ _ _ h => h) (by rfl) hHeld (fun W hS => ?_) ?_
  · obtain ⟨y0, y1, y2, y3, y4⟩ := hS
    go_simp
  try simp only [Act.put, List.setIfInBounds_toArray, List.set_cons_zero, List.set_cons_succ]
  refine wpAnyH_ready (rs := [6]) (by kernel_rfl) (by simp) ?_
  refine ready_l rfl (fun Kq hK => ?_) AllReadyH.nil
  go_simp
  refine hK.out _ _ ⟨cell_al hHeld.1 _, cell_al hHeld.2.1 _, cell_al hHeld.2.2.1 _, cell_al hHeld.2.2.2.1 _, cell_al hHeld.2.2.2.2 _⟩ (fun hHeld => ?_)
  clear hK Kq
  try simp only [Act.put, List.setIfInBounds_toArray, List.set_cons_zero, List.set_cons_succ]
  refine wpAnyH_ready (rs := [7]) (by kernel_rfl) (by simp) ?_
  refine ready_l rfl (fun Kq hK => ?_) AllReadyH.nil
  refine step_append_grows rfl (.tmp 158) (.tmp 163) 23 rfl 33 i0 (.agg #[.string ⟨#[]⟩, .int .i64 0, .int .i64 0, .slice none 0 0]) 4 56 Tryl.underlying23 hi hz0 hz1 hz2 rfl (by decide) (some ⟨fb, 0, none⟩) 1 1 (fCells w1.heap.size) (by simp [Act.eval]) (fun h => by cases h) rfl
        (fun b hb j u hu => by cases hb; exact World.news_of_block (show ((w3.alloc _).drew).heap[fb]? = some (.cells (fCells w1.heap.size).toArray 33 (0, 0)) from blk_alloc F1 _) j u (by simpa using hu)) ⟨w3.heap.size, 0, none⟩ 1 1 (fCells w1.heap.size) (by simp [Act.eval]) rfl
        (fun j u hu => World.news_of_block (show ((w3.alloc _).drew).heap[w3.heap.size]? = some (.cells (fCells w1.heap.size).toArray 33 (0, 0)) from blk_new w3 _ _ rfl) j u (by simpa using hu)) (fCells_one _) (by decide) (by unfold maxLen; decide) (by decide) ?_
  intro v' w4 hown hgrow
  obtain ⟨g, gcap, rfl, hgb, hglt⟩ := hown.form (by decide)
  have kq : Kp No ((w3.alloc (.cells #[.string fName, .int .i64 0, .int .i64 0, .slice (some ⟨w1.heap.size, 0, none⟩) 2 2] 33)).drew) w4 := ⟨hgrow.os, hgrow.tape, hgrow.output, hgrow.size, fun i hi _ => hgrow.block i hi (by simp)⟩
  have kg : Kp No w3 w4 := ((Kp.refl No w3).alloc _).drew.trans kq (fun _ _ h => h)
  refine hK.out _ _ ⟨kg.cell j0 (fun x => x), kg.cell g0 (fun x => x), kg.cell g1 (fun x => x), kg.cell g2 (fun x => x), kg.cell g3 (fun x => x)⟩ (fun hHeld => ?_)
  clear hK Kq
  try simp only [Act.put, List.setIfInBounds_toArray, List.set_cons_zero, List.set_cons_succ]
  refine wpAnyH_done (by kernel_rfl) ?_ _
  refine headPost.normal ?_
  have hJ4 := kg.blk hJb (fun x => x)
  have z0 := cell_blk hJ4 0 (v := .slice (some ⟨fb, 0, none⟩) 1 1) rfl
  have z1 := cell_blk hJ4 1 (v := .int .i64 0) rfl
  have z2 := cell_blk hJ4 2 (v := .slice none 0 0) rfl
  have z3 := cell_blk hJ4 3 (v := .int .i64 100) rfl
  have z4 := cell_blk hJ4 4 (v := .int .i64 50) rfl
  have zf := free_blk hJ4 0
  have hJ3 := hJb
  clear hJb F1 j0 t0 g0 g1 g2 g3 hHeld kq hgrow f0 f1 f2 f3 r0 r1 r2 r3
  have hjl : w2.heap.size < ((w3.alloc (.cells #[.string fName, .int .i64 0, .int .i64 0, .slice (some ⟨w1.heap.size, 0, none⟩) 2 2] 33)).drew).heap.size := by have := lt_of_block hJ3; simp [World.drew]; omega
  have hown5 := ownsRow_setCell_below hown (a := ⟨w2.heap.size, 0, none⟩) hjl (.slice (some ⟨g, 0, none⟩) 2 gcap)
  have hC5 := blk_other (kg.blk C1 (fun x => x)) ⟨w2.heap.size, 0, none⟩ (Nat.ne_of_lt n4) (.slice (some ⟨g, 0, none⟩) 2 gcap)
  have K5 : Kp No w (w4.setCell ⟨w2.heap.size, 0, none⟩ (.slice (some ⟨g, 0, none⟩) 2 gcap)) := (K1.trans kg (fun _ _ h => h)).setNew _ _ _ (by omega)
  have hJ5 : JobAt (w4.setCell ⟨w2.heap.size, 0, none⟩ (.slice (some ⟨g, 0, none⟩) 2 gcap)).heap.size (w4.setCell ⟨w2.heap.size, 0, none⟩ (.slice (some ⟨g, 0, none⟩) 2 gcap)) (.slice (some ⟨g, 0, none⟩) 2 gcap) (.slice none 0 0) ⟨[⟨fName, 0, 0, c2⟩, ⟨fName, 0, 0, c2⟩], 0, [], 100, 50⟩ :=
    ⟨funcs_of_row (l := [(⟨fName, 0, 0, c2⟩, .slice (some ⟨w1.heap.size, 0, none⟩) 2 2), (⟨fName, 0, 0, c2⟩, .slice (some ⟨w1.heap.size, 0, none⟩) 2 2)]) hown5 (fun p hp => by
      simp only [List.mem_cons, List.mem_nil_iff, or_false, or_self] at hp
      subst hp
      exact ⟨by show fName.size ≤ _; decide, code_two hC5⟩), IntsAt.nil _ _⟩
  clear hown hown5 hC5 kg hJ4 hJ3 C1
  go_wp2_with (first
    | (go_at_call 11; (with_reducible refine (check_mk hS _ _ w _ hg K5 hJ5).mono ?_); rintro e w' ⟨⟨rf, ri, rfl⟩, hk3⟩)
    | (go_at_call 12; (with_reducible refine (num_any _ _).mono ?_); rintro e w' ⟨rfl, rfl⟩))
  go_ret
  exact ⟨rfl, hk3⟩

set_option maxRecDepth 100000 in
theorem each_low (k n : Int) (h : n < 1) (w : World) (hg : ErrVar w) :
    Calls Tryl.prog 3 #[.int .i64 k, .int .i64 n] w fun e w' => e = .returned (.bool true) ∧ Kp No w w' := by
  have d1 : decide (n < 1) = true := decide_eq_true (by omega)
  go_enter Tryl.func3, Tryl.ntmps3
  go_wp2_with (first | (go_at_call 9; (with_reducible refine (alive_any _ hg).mono ?_); rintro e w1 ⟨rfl, hk⟩))
  go_ret
  exact ⟨rfl, hk⟩

set_option maxRecDepth 100000 in
theorem each_high (k n : Int) (h : 200 < n) (w : World) (hg : ErrVar w) :
    Calls Tryl.prog 3 #[.int .i64 k, .int .i64 n] w fun e w' => e = .returned (.bool true) ∧ Kp No w w' := by
  have d1 : decide (n < 1) = false := decide_eq_false (by omega)
  have d2 : decide (200 < n) = true := decide_eq_true (by omega)
  go_enter Tryl.func3, Tryl.ntmps3
  go_wp2_with (first | (go_at_call 9; (with_reducible refine (alive_any _ hg).mono ?_); rintro e w1 ⟨rfl, hk⟩))
  go_ret
  exact ⟨rfl, hk⟩

set_option maxRecDepth 100000 in
theorem each_other (k n : Int) (h1 : 1 ≤ n) (h2 : n ≤ 200) (h : k < 0 ∨ 17 < k) (w : World) (hg : ErrVar w) :
    Calls Tryl.prog 3 #[.int .i64 k, .int .i64 n] w fun e w' => e = .returned (.bool true) ∧ Kp No w w' := by
  have d1 : decide (n < 1) = false := decide_eq_false (by omega)
  have d2 : decide (200 < n) = false := decide_eq_false (by omega)
  have q0 : (k == 0) = false := by simp; omega
  have q1 : (k == 1) = false := by simp; omega
  have q2 : (k == 2) = false := by simp; omega
  have q3 : (k == 3) = false := by simp; omega
  have q4 : (k == 4) = false := by simp; omega
  have q5 : (k == 5) = false := by simp; omega
  have q6 : (k == 6) = false := by simp; omega
  have q7 : (k == 7) = false := by simp; omega
  have q8 : (k == 8) = false := by simp; omega
  have q9 : (k == 9) = false := by simp; omega
  have q10 : (k == 10) = false := by simp; omega
  have q11 : (k == 11) = false := by simp; omega
  have q12 : (k == 12) = false := by simp; omega
  have q13 : (k == 13) = false := by simp; omega
  have q14 : (k == 14) = false := by simp; omega
  have q15 : (k == 15) = false := by simp; omega
  have q16 : (k == 16) = false := by simp; omega
  have q17 : (k == 17) = false := by simp; omega
  go_enter Tryl.func3, Tryl.ntmps3
  go_wp2_with (first | (go_at_call 9; (with_reducible refine (alive_any _ hg).mono ?_); rintro e w1 ⟨rfl, hk⟩) | (go_at_call 10; (with_reducible refine (oneJ_blk _ _ _ _).mono ?_); rintro e w2 ⟨fb, rfl, hk2, hfb, hF⟩; have K : Kp No w w2 := (hk.alloc _).trans hk2 (fun _ _ h => h)))
  go_ret
  exact ⟨rfl, K.alloc _⟩

theorem each_any (k n : Int) (w : World) (hg : ErrVar w) :
    Calls Tryl.prog 3 #[.int .i64 k, .int .i64 n] w fun e w' => e = .returned (.bool true) ∧ Kp No w w' := by
  by_cases hl : n < 1
  · exact each_low k n hl w hg
  by_cases hh : 200 < n
  · exact each_high k n hh w hg
  have h1 : 1 ≤ n := by omega
  have h2 : n ≤ 200 := by omega
  by_cases ho : k < 0 ∨ 17 < k
  · exact each_other k n h1 h2 ho w hg
  rcases (show k = 0 ∨ k = 1 ∨ k = 2 ∨ k = 3 ∨ k = 4 ∨ k = 5 ∨ k = 6 ∨ k = 7 ∨ k = 8 ∨ k = 9 ∨ k = 10 ∨ k = 11 ∨ k = 12 ∨ k = 13 ∨ k = 14 ∨ k = 15 ∨ k = 16 ∨ k = 17 by omega) with rfl | rfl | rfl | rfl | rfl | rfl | rfl | rfl | rfl | rfl | rfl | rfl | rfl | rfl | rfl | rfl | rfl | rfl
  · exact each_0 n h1 h2 w hg
  · exact each_1 n h1 h2 w hg
  · exact each_2 n h1 h2 w hg
  · exact each_3 n h1 h2 w hg
  · exact each_4 n h1 h2 w hg
  · exact each_5 n h1 h2 w hg
  · exact each_6 n h1 h2 w hg
  · exact each_7 n h1 h2 w hg
  · exact each_8 n h1 h2 w hg
  · exact each_9 n h1 h2 w hg
  · exact each_10 n h1 h2 w hg
  · exact each_11 n h1 h2 w hg
  · exact each_12 n h1 h2 w hg
  · exact each_13 n h1 h2 w hg
  · exact each_14 n h1 h2 w hg
  · exact each_15 n h1 h2 w hg
  · exact each_16 n h1 h2 w hg
  · exact each_17 n h1 h2 w hg
end Go.Proofs.YtgjdlloiiedpmaaLiftDoor
