/- 'CheckMeets': the walk. No condition. -/
import Derived.Test.YtgjdlloiiedpmaaLiftDoorMeetsP
import Derived.Test.YtgjdlloiiedpmaaLiftDoorRowL
namespace Go.Proofs.YtgjdlloiiedpmaaLiftDoor
open Go.RowKit

def mA (a k : Nat) : List SIns := [⟨1, 0⟩, ⟨15, 3 + (a : Int)⟩] ++ List.replicate k ⟨1, 0⟩
def mB (a b k : Nat) : List SIns := mA a a ++ [⟨14, 3 + (a : Int) + b⟩] ++ List.replicate k ⟨1, 0⟩
theorem mA_len (a k : Nat) : (mA a k).length = k + 2 := by simp [mA]
theorem mB_len (a b k : Nat) : (mB a b k).length = a + k + 3 := by simp [mB, mA_len]; omega
theorem mA_succ (a k : Nat) : mA a (k + 1) = mA a k ++ [⟨1, 0⟩] := by simp [mA, List.replicate_succ']
theorem mB_succ (a b k : Nat) : mB a b (k + 1) = mB a b k ++ [⟨1, 0⟩] := by simp [mB, List.replicate_succ']
theorem mB_all (a b : Nat) : mB a b b ++ [⟨1, 0⟩, ⟨18, 0⟩] = meetC a b := by simp [mB, mA, meetC]

theorem depths_one (code : List SIns) (r : Option (List Int)) (hr : depthsS (oneJ code) 0 = r) (fv : Value) (w : World) (hg : ErrVar w) (hJ : JobAt w.heap.size w fv (.slice none 0 0) (oneJ code)) :
    Calls Tryl.prog 15 #[.agg #[fv, .int .i64 0, .slice none 0 0, .int .i64 100, .int .i64 50], .int .i64 0] w fun e w' => ∃ v, e = .returned v ∧ IntsOf w.heap.size w' v r ∧ Kp No w w' := by
  subst hr
  exact depths_any fv (.slice none 0 0) (oneJ code) 0 w hg hJ (by show 1 ≤ 9223372036854775807; decide)

set_option maxRecDepth 100000 in
set_option maxHeartbeats 4000000 in
theorem meets_any (a b : Int) (w : World) (hg : ErrVar w) :
    Calls Tryl.prog 7 #[.int .i64 a, .int .i64 b] w fun e w' => e = .returned (.bool true) ∧ Kp No w w' := by
  by_cases hn : 0 ≤ a ∧ 0 ≤ b ∧ a ≤ 20 ∧ b ≤ 20
  rotate_left
  · rcases (show a < 0 ∨ (0 ≤ a ∧ b < 0) ∨ (0 ≤ a ∧ 0 ≤ b ∧ 20 < a) ∨ (0 ≤ a ∧ 0 ≤ b ∧ a ≤ 20 ∧ 20 < b) by omega) with h | ⟨h1, h⟩ | ⟨h1, h2, h⟩ | ⟨h1, h2, h3, h⟩
    · have d1 : decide (a < 0) = true := decide_eq_true (by omega)
      clear hn h
      go_enter Tryl.func7, Tryl.ntmps7
      go_wp2_with (first | (go_at_call 9; (with_reducible refine (alive_any _ hg).mono ?_); rintro e w1 ⟨rfl, hk⟩))
      go_ret
      exact ⟨rfl, hk⟩
    · have d1 : decide (a < 0) = false := decide_eq_false (by omega)
      have d2 : decide (b < 0) = true := decide_eq_true (by omega)
      clear hn h h1
      go_enter Tryl.func7, Tryl.ntmps7
      go_wp2_with (first | (go_at_call 9; (with_reducible refine (alive_any _ hg).mono ?_); rintro e w1 ⟨rfl, hk⟩))
      go_ret
      exact ⟨rfl, hk⟩
    · have d1 : decide (a < 0) = false := decide_eq_false (by omega)
      have d2 : decide (b < 0) = false := decide_eq_false (by omega)
      have d3 : decide (20 < a) = true := decide_eq_true (by omega)
      clear hn h h1 h2
      go_enter Tryl.func7, Tryl.ntmps7
      go_wp2_with (first | (go_at_call 9; (with_reducible refine (alive_any _ hg).mono ?_); rintro e w1 ⟨rfl, hk⟩))
      go_ret
      exact ⟨rfl, hk⟩
    · have d1 : decide (a < 0) = false := decide_eq_false (by omega)
      have d2 : decide (b < 0) = false := decide_eq_false (by omega)
      have d3 : decide (20 < a) = false := decide_eq_false (by omega)
      have d4 : decide (20 < b) = true := decide_eq_true (by omega)
      clear hn h h1 h2 h3
      go_enter Tryl.func7, Tryl.ntmps7
      go_wp2_with (first | (go_at_call 9; (with_reducible refine (alive_any _ hg).mono ?_); rintro e w1 ⟨rfl, hk⟩))
      go_ret
      exact ⟨rfl, hk⟩
  obtain ⟨a, rfl⟩ : ∃ k : Nat, a = k := ⟨a.toNat, by omega⟩
  obtain ⟨b, rfl⟩ : ∃ k : Nat, b = k := ⟨b.toNat, by omega⟩
  have ha : a ≤ 20 := by omega
  have hb : b ≤ 20 := by omega
  have d1 : decide ((a : Int) < 0) = false := decide_eq_false (by omega)
  have d2 : decide ((b : Int) < 0) = false := decide_eq_false (by omega)
  have d3 : decide (20 < (a : Int)) = false := decide_eq_false (by omega)
  have d4 : decide (20 < (b : Int)) = false := decide_eq_false (by omega)
  clear hn
  go_enter Tryl.func7, Tryl.ntmps7
  go_wp2_with (first | (go_at_call 9; (with_reducible refine (alive_any _ hg).mono ?_); rintro e w1 ⟨rfl, hk⟩))
  have r0 : RowC w.heap.size (.slice (some ⟨w1.heap.size, 0, none⟩) 2 2) (mA a 0) (w1.alloc (.cells #[.int .i64 1, .int .i64 0, .int .i64 15, .int .i64 (3 + (a : Int))] 29)) := rowC_lit w1 w.heap.size [⟨1, 0⟩, ⟨15, 3 + (a : Int)⟩] hk.size (by simp)
  go_loopw [6, 7] (fun v i wr => ∃ (k : Nat), k ≤ a ∧ i = .int .i64 k ∧ RowC w.heap.size v (mA a k) wr ∧ Kp No w wr) (fun _ i _ => a - (intOf i).toNat)
  case atStart => exact ⟨0, by omega, rfl, r0, hk.alloc _⟩
  case round =>
    obtain ⟨k, hk0, rfl, hrow, hkp⟩ := hrel
    clear r0 hk
    by_cases hlt : k < a
    · have hkl : (mA a k).length ≤ 1000000 := by rw [mA_len]; omega
      have hsz : w.heap.size ≤ (wr.alloc (.cells #[.int .i64 1, .int .i64 0] 29)).heap.size := by have := hkp.size; simp; omega
      go_wp2_with (first | (at_builtin; refine list_pushC _ _ rfl rfl w.heap.size _ (mA a k) ⟨1, 0⟩ _ 1 rfl rfl (blk_new _ _ _ rfl) (hrow.alloc _) hkl hsz ?_; intro g cap w2 hrow2 hgw hat))
      have hk2 : Kp No w w2 := push_kp (hkp.alloc _) (hrow.alloc _) hgw (Nat.le_refl _)
      go_roundw
      case rel => exact ⟨k + 1, by omega, by go_num, by rw [mA_succ]; exact hrow2, hk2⟩
      case measure => simp [intOf]; omega
    · obtain rfl : k = a := by omega
      have hkl : (mA k k).length ≤ 1000000 := by rw [mA_len]; omega
      have hsz : w.heap.size ≤ (wr.alloc (.cells #[.int .i64 14, .int .i64 (3 + (k : Int) + b)] 29)).heap.size := by have := hkp.size; simp; omega
      go_wp2_with (first | (at_builtin; refine list_pushC _ _ rfl rfl w.heap.size _ (mA k k) ⟨14, 3 + (k : Int) + b⟩ _ 1 rfl rfl (blk_new _ _ _ rfl) (hrow.alloc _) hkl hsz ?_; intro g cap w2 hrow2 hgw hat))
      have hk2 : Kp No w w2 := push_kp (hkp.alloc _) (hrow.alloc _) hgw (Nat.le_refl _)
      have r1 : RowC w.heap.size (.slice (some ⟨g, 0, none⟩) ((mA k k).length + 1) cap) (mB k b 0) w2 := by unfold mB; simpa using hrow2
      clear hrow hkp hrow2 hgw hat
      go_loopw [6, 8] (fun v i wr => ∃ (j : Nat), j ≤ b ∧ i = .int .i64 j ∧ RowC w.heap.size v (mB k b j) wr ∧ Kp No w wr) (fun _ i _ => b - (intOf i).toNat)
      case atStart => exact ⟨0, by omega, rfl, r1, hk2⟩
      case round =>
        obtain ⟨j, hj0, rfl, hrow, hkp⟩ := hrel
        clear r1 hk2
        by_cases hlt2 : j < b
        · have hkl : (mB k b j).length ≤ 1000000 := by rw [mB_len]; omega
          have hsz : w.heap.size ≤ (wr.alloc (.cells #[.int .i64 1, .int .i64 0] 29)).heap.size := by have := hkp.size; simp; omega
          go_wp2_with (first | (at_builtin; refine list_pushC _ _ rfl rfl w.heap.size _ (mB k b j) ⟨1, 0⟩ _ 1 rfl rfl (blk_new _ _ _ rfl) (hrow.alloc _) hkl hsz ?_; intro g cap w2 hrow2 hgw hat))
          have hk2 : Kp No w w2 := push_kp (hkp.alloc _) (hrow.alloc _) hgw (Nat.le_refl _)
          go_roundw
          case rel => exact ⟨j + 1, by omega, by go_num, by rw [mB_succ]; exact hrow2, hk2⟩
          case measure => simp [intOf]; omega
        · obtain rfl : j = b := by omega
          have hrow9 := hrow
          have hkp9 := hkp
          have hkl9 : (mB k j j).length ≤ 1000000 := by rw [mB_len]; omega
          have hsz9 : w.heap.size ≤ (wr.alloc (.cells #[.int .i64 1, .int .i64 0, .int .i64 18, .int .i64 0] 29)).heap.size := by have := hkp.size; simp; omega
          have hlen : (meetC k j).length ≤ 1000000 := by rw [meet_len]; omega
          have hB2 : (wr.alloc (.cells #[.int .i64 1, .int .i64 0, .int .i64 18, .int .i64 0] 29)).heap[wr.heap.size]? = some (.cells (insCells [⟨1, 0⟩, ⟨18, 0⟩]).toArray 29 (0, 0)) := blk_new _ _ _ rfl
          by_cases hab : k = j
          · have e1 : ((k : Int) == (j : Int)) = true := by simp [hab]
            subst hab
            have hR := meet_check_good ha
            have hD := meet_depths ha
            clear hlt hlt2
            go_wp2_with (first
              | (at_builtin; go_loud (refine list_pushL _ _ rfl rfl w.heap.size _ (mB k k k) [⟨1, 0⟩, ⟨18, 0⟩] _ 2 2 rfl rfl rfl hB2 (hrow9.alloc _) hkl9 (by decide) (by decide) hsz9 ?_); intro g cap w2 hrow2 hgw hat; have hk2 : Kp No w w2 := push_kp (hkp9.alloc _) (hrow9.alloc _) hgw (Nat.le_refl _); rw [mB_all] at hrow2)
              | (go_at_call 10; (with_reducible refine (oneJ_any (meetC k k) _ _ (RowC.code hrow2 hlen)).mono ?_); rintro e w3 ⟨fv, rfl, hk3, hJ⟩; have hk3' := hk2.trans hk3 (fun _ _ h => h); have hg3 : ErrVar w3 := hk3'.cell hg (fun x => x))
              | (go_at_call 11; (with_reducible refine (check_one (meetC k k) _ hR _ _ hg3 hJ).mono ?_); rintro e w4 ⟨rfl, hk4⟩; have hk4' := hk3'.trans hk4 (fun _ _ h => h))
              | (fail))
            have l1 : (meetD k).length = (mB k k k).length + 2 := by have h1 := meetD_len k; have h2 := mB_len k k k; omega
            have l2 : 3 + k + k < (mB k k k).length + 2 := by have h2 := mB_len k k k; omega
            have r4 := (RowC.kp hrow2 (hk3.trans hk4 (fun _ _ h => h) : Kp No w2 w4) (fun _ _ x => x)).code hlen
            have hg4 : ErrVar w4 := hk4'.cell hg (fun x => x)
            clear hk3' hg3 hJ hk3 hk4
            go_wp2_with (first
              | (go_at_call 10; (with_reducible refine (oneJ_any (meetC k k) _ _ r4).mono ?_); rintro e w5 ⟨fv5, rfl, hk5, hJ5⟩; have hk5' := hk4'.trans hk5 (fun _ _ h => h); have hg5 : ErrVar w5 := hk5'.cell hg (fun x => x))
              | (go_at_call 15; (with_reducible refine (depths_one (meetC k k) _ hD _ _ hg5 hJ5).mono ?_); rintro e w6 ⟨v6, rfl, hv6, hk6⟩; obtain ⟨db, dcap, rfl, _, hdb⟩ := hv6; have hc6 := hdb.cell (j := 3 + k + k) (v := .int .i64 k) (by rw [show 3 + k + k = k + k + 3 by omega, ints, List.getElem?_map, meetD_get]; rfl))
              | (go_at_call 12; (with_reducible refine (num_any _ _).mono ?_); rintro e w' ⟨rfl, rfl⟩))
            go_ret
            exact ⟨rfl, hk5'.trans hk6 (fun _ _ h => h)⟩
          · have e1 : ((k : Int) == (j : Int)) = false := by simp; omega
            obtain ⟨i, hR⟩ := meet_check_bad ha hb hab
            clear hlt hlt2 hab
            go_wp2_with (first
              | (at_builtin; go_loud (refine list_pushL _ _ rfl rfl w.heap.size _ (mB k j j) [⟨1, 0⟩, ⟨18, 0⟩] _ 2 2 rfl rfl rfl hB2 (hrow9.alloc _) hkl9 (by decide) (by decide) hsz9 ?_); intro g cap w2 hrow2 hgw hat; have hk2 : Kp No w w2 := push_kp (hkp9.alloc _) (hrow9.alloc _) hgw (Nat.le_refl _); rw [mB_all] at hrow2)
              | (go_at_call 10; (with_reducible refine (oneJ_any (meetC k j) _ _ (RowC.code hrow2 hlen)).mono ?_); rintro e w3 ⟨fv, rfl, hk3, hJ⟩; have hk3' := hk2.trans hk3 (fun _ _ h => h); have hg3 : ErrVar w3 := hk3'.cell hg (fun x => x))
              | (go_at_call 11; (with_reducible refine (check_one (meetC k j) _ hR _ _ hg3 hJ).mono ?_); rintro e w4 ⟨rfl, hk4⟩)
              | (go_at_call 12; (with_reducible refine (num_any _ _).mono ?_); rintro e w' ⟨rfl, rfl⟩))
            go_ret
            exact ⟨rfl, hk3'.trans hk4 (fun _ _ h => h)⟩
end Go.Proofs.YtgjdlloiiedpmaaLiftDoor
