/- 'CheckTall': the plain law and the walk. No condition. -/
import Derived.Test.YtgjdlloiiedpmaaLiftDoorRowC
namespace Go.Proofs.YtgjdlloiiedpmaaLiftDoor
open Go.RowKit

def tallC (n : Nat) : List SIns := (List.range n).map fun (i : Nat) => ⟨1, (i : Int)⟩
def tallL (n : Nat) : List SIns := tallC n ++ [⟨18, 0⟩]
theorem tallC_len (n : Nat) : (tallC n).length = n := by simp [tallC]
theorem tallC_succ (n : Nat) : tallC (n + 1) = tallC n ++ [⟨1, (n : Int)⟩] := by simp [tallC, List.range_succ]
theorem tall_len (n : Nat) : (tallL n).length = n + 1 := by simp [tallL, tallC]
theorem tall_get {n k : Nat} (h : k < n) : (tallL n)[k]? = some ⟨1, (k : Int)⟩ := by
  unfold tallL tallC
  rw [List.getElem?_append_left (by simpa using h)]
  simp [h]
theorem tall_last (n : Nat) : (tallL n)[n]? = some ⟨18, 0⟩ := by simp [tallL, tallC]
theorem tall_ins (n : Nat) : inssS 1 0 (tallL n).length 0 (tallL n) = none := by
  refine inss_none _ _ fun x hx => ?_
  unfold tallL tallC at hx
  rcases List.mem_append.1 hx with h1 | h1
  · obtain ⟨i, _, rfl⟩ := List.mem_map.1 h1
    exact push_ins _ _ _ _
  · have : x = ⟨18, 0⟩ := by simpa using h1
    subst this; exact ret_ins _ _ _
theorem tall_run (fs : List SFunc) {n m F : Nat} (f : Nat) (hF : F = f + m) (hm : m ≤ n) (h32 : m ≤ 32) :
    allS fs (tallL n) F (lineD (n + 1) 0 (fun j => (j : Int)) (fun _ => -1)) (lineG (n + 1) 0) = allS fs (tallL n) f (lineD (n + 1) m (fun j => (j : Int)) (fun _ => -1)) (lineG (n + 1) m) := by
  subst hF
  have := line_run (fs := fs) (code := tallL n) (n := n + 1) (h := fun j => (j : Int)) (e := fun _ => -1) m 0 f (fun i _ hi => ⟨⟨1, (i : Int)⟩, 0, 1, tall_get (by omega), by omega, next_push _ _, pops_push _ _ _, pushes_push, by omega, by omega, by omega, by omega, by omega, by omega, by omega⟩)
  simpa using this
theorem tall_walk (fs : List SFunc) {n : Nat} (h1 : 1 ≤ n) : (walkS fs (tallL n)).1 = if 32 < n then some (32, 12) else none := by
  rw [walkS_line (h := fun j => (j : Int)) (e := fun _ => -1) (tall_len n) rfl (fun _ _ _ => rfl)]
  by_cases h : 32 < n
  · rw [if_pos h, tall_run fs (F := n + 1) (m := 32) ((n - 32) + 1) (by omega) (by omega) (by omega)]
    rw [all_err (n - 32) (line_least (by omega) (by omega)) (one_high (tall_get h) (by omega) 0 1 (pops_push _ _ _) pushes_push (by simp) (by simp) (by omega) (by omega) (by omega) (by simp))]
    rfl
  · rw [if_neg h, tall_run fs (F := n + 1) (m := n) (0 + 1) (by omega) (by omega) (by omega)]
    have ho := one_tab (fs := fs) (n := n + 1) (d := fun j => if j ≤ n then (j : Int) else -1) (tall_last n) (by omega) 1 0 (pops_ret _ _ _) pushes_ret (by simp; omega) (by simp; omega) (by omega) (by omega) (by simp; omega)
    rw [next_ret] at ho
    rw [all_step 0 (line_least (by omega) (by omega)) ho]
    rfl
theorem tall_check {n : Nat} (h1 : 1 ≤ n) (h2 : n ≤ 100) : checkR (oneJ (tallL n)) = if 32 < n then (0, 32, 12) else (0, 0, 0) := by
  unfold checkR
  rw [check_oneJ (by rw [tall_len]; omega) (by rw [tall_len]; omega), tall_ins n]
  simp only [tall_walk _ h1]
  by_cases h : 32 < n
  · rw [if_pos h, if_pos h]; rfl
  · rw [if_neg h, if_neg h]; rfl

set_option maxHeartbeats 2000000 in
theorem tall_any (n : Int) (w : World) (hg : ErrVar w) :
    Calls Tryl.prog 4 #[.int .i64 n] w fun e w' => e = .returned (.bool true) ∧ Kp No w w' := by
  by_cases hn : 1 ≤ n ∧ n ≤ 100
  rotate_left
  · rcases (show n < 1 ∨ (1 ≤ n ∧ 100 < n) by omega) with h | ⟨h, h'⟩
    · have d1 : decide (n < 1) = true := by simp; omega
      clear hn h
      go_enter Tryl.func4, Tryl.ntmps4
      go_wp2_with (first | (go_at_call 9; (with_reducible refine (alive_any _ hg).mono ?_); rintro e w1 ⟨rfl, hk⟩))
      go_ret
      exact ⟨rfl, hk⟩
    · have d1 : decide (n < 1) = false := by simp; omega
      have d2 : decide (100 < n) = true := by simp; omega
      clear hn h h'
      go_enter Tryl.func4, Tryl.ntmps4
      go_wp2_with (first | (go_at_call 9; (with_reducible refine (alive_any _ hg).mono ?_); rintro e w1 ⟨rfl, hk⟩))
      go_ret
      exact ⟨rfl, hk⟩
  obtain ⟨m, rfl⟩ : ∃ m : Nat, n = m := ⟨n.toNat, by omega⟩
  have hm1 : 1 ≤ m := by omega
  have hm2 : m ≤ 100 := by omega
  have d1 : decide ((m : Int) < 1) = false := by simp; omega
  have d2 : decide (100 < (m : Int)) = false := by simp; omega
  clear hn
  go_enter Tryl.func4, Tryl.ntmps4
  go_wp2_with (first | (go_at_call 9; (with_reducible refine (alive_any _ hg).mono ?_); rintro e w1 ⟨rfl, hk⟩))
  have hg1 : ErrVar w1 := hk.cell hg (fun x => x)
  go_loopw [4, 5] (fun v i wr => ∃ (k : Nat), k ≤ m ∧ i = .int .i64 k ∧ RowC w.heap.size v (tallC k) wr ∧ Kp No w wr ∧ ErrVar wr) (fun _ i _ => m - (intOf i).toNat)
  case atStart => exact ⟨0, by omega, rfl, RowC.nil _ _, hk, hg1⟩
  case round =>
    obtain ⟨k, hk0, rfl, hrow, hkp, hgr⟩ := hrel
    clear hg1 hk
    by_cases hlt : k < m
    · have hkl : (tallC k).length ≤ 1000000 := by rw [tallC_len]; omega
      have hsz : w.heap.size ≤ (wr.alloc (.cells #[.int .i64 1, .int .i64 k] 29)).heap.size := by have := hkp.size; simp; omega
      go_wp2_with (first | (at_builtin; refine list_pushC _ _ rfl rfl w.heap.size _ (tallC k) ⟨1, (k : Int)⟩ _ 1 rfl rfl (blk_new _ _ _ rfl) (hrow.alloc _) hkl hsz ?_; intro g cap w2 hrow2 hgw hat))
      have hk2 : Kp No w w2 := push_kp (hkp.alloc _) (hrow.alloc _) hgw (Nat.le_refl _)
      go_roundw
      case rel => exact ⟨k + 1, by omega, by go_num, by rw [tallC_succ]; exact hrow2, hk2, hk2.cell hg (fun x => x)⟩
      case measure => simp [intOf]; omega
    · obtain rfl : k = m := by omega
      have hkl : (tallC k).length ≤ 1000000 := by rw [tallC_len]; omega
      have hsz : w.heap.size ≤ (wr.alloc (.cells #[.int .i64 18, .int .i64 0] 29)).heap.size := by have := hkp.size; simp; omega
      have hR := tall_check hm1 hm2
      have hlen : (tallL k).length ≤ 1000000 := by rw [tall_len]; omega
      by_cases h32 : 32 < k
      · rw [if_pos h32] at hR
        have d3 : decide (32 < (k : Int)) = true := by simp; omega
        clear h32 hlt
        go_wp2_with (first
          | (at_builtin; refine list_pushC _ _ rfl rfl w.heap.size _ (tallC k) ⟨18, 0⟩ _ 1 rfl rfl (blk_new _ _ _ rfl) (hrow.alloc _) hkl hsz ?_; intro g cap w2 hrow2 hgw hat; have hk2 : Kp No w w2 := push_kp (hkp.alloc _) (hrow.alloc _) hgw (Nat.le_refl _))
          | (go_at_call 10; (with_reducible refine (oneJ_any (tallL k) _ _ (RowC.code hrow2 hlen)).mono ?_); rintro e w3 ⟨fv, rfl, hk3, hJ⟩; have hk3' := hk2.trans hk3 (fun _ _ h => h); have hg3 : ErrVar w3 := hk3'.cell hg (fun x => x))
          | (go_at_call 11; (with_reducible refine (check_one (tallL k) _ hR _ _ hg3 hJ).mono ?_); rintro e w4 ⟨rfl, hk4⟩)
          | (go_at_call 12; (with_reducible refine (num_any _ _).mono ?_); rintro e w' ⟨rfl, rfl⟩))
        go_ret
        exact ⟨rfl, hk3'.trans hk4 (fun _ _ h => h)⟩
      · rw [if_neg h32] at hR
        have d3 : decide (32 < (k : Int)) = false := by simp; omega
        clear h32 hlt
        go_wp2_with (first
          | (at_builtin; refine list_pushC _ _ rfl rfl w.heap.size _ (tallC k) ⟨18, 0⟩ _ 1 rfl rfl (blk_new _ _ _ rfl) (hrow.alloc _) hkl hsz ?_; intro g cap w2 hrow2 hgw hat; have hk2 : Kp No w w2 := push_kp (hkp.alloc _) (hrow.alloc _) hgw (Nat.le_refl _))
          | (go_at_call 10; (with_reducible refine (oneJ_any (tallL k) _ _ (RowC.code hrow2 hlen)).mono ?_); rintro e w3 ⟨fv, rfl, hk3, hJ⟩; have hk3' := hk2.trans hk3 (fun _ _ h => h); have hg3 : ErrVar w3 := hk3'.cell hg (fun x => x))
          | (go_at_call 11; (with_reducible refine (check_one (tallL k) _ hR _ _ hg3 hJ).mono ?_); rintro e w4 ⟨rfl, hk4⟩)
          | (go_at_call 12; (with_reducible refine (num_any _ _).mono ?_); rintro e w' ⟨rfl, rfl⟩))
        go_ret
        exact ⟨rfl, hk3'.trans hk4 (fun _ _ h => h)⟩
end Go.Proofs.YtgjdlloiiedpmaaLiftDoor
