/- What an instruction takes off, and where it goes on (package code, and the reference's twins): contracts. No condition. -/
import Derived.Test.YtgjdlloiiedpmaaLiftDoorCode
namespace Go.Proofs.YtgjdlloiiedpmaaLiftDoor
open Go.RowKit

/-- How many values an instruction takes off; A: the number of arguments of the function that a spawn names, if there is one. -/
def popsS (op n : Int) (L : Nat) (A : Int) : Int :=
  if op = 2 ∨ op = 3 ∨ op = 6 ∨ op = 15 ∨ op = 17 ∨ op = 18 ∨ op = 19 then 1
  else if op = 4 ∨ op = 7 ∨ op = 8 ∨ op = 9 ∨ op = 10 ∨ op = 11 ∨ op = 12 ∨ op = 13 then 2
  else if op = 16 ∧ 0 ≤ n ∧ n < L then A else 0

set_option maxHeartbeats 2000000 in
theorem pops_any (op n : Int) (ao : Option Addr) (L cap : Nat) (A : Int) (w : World)
    (hA : op = 16 → 0 ≤ n → n < L → ∃ b o, ao = some ⟨b, o, none⟩ ∧ w.cell? ⟨b, o + n.toNat * 4 + 1, none⟩ = some (.int .i64 A)) :
    Calls Tryl.prog 42 #[.agg #[.int .i64 op, .int .i64 n], .slice ao L cap] w fun e w' => e = .returned (.int .i64 (popsS op n L A)) ∧ Below w.heap.size w w' := by
  by_cases h16 : op = 16 ∧ 0 ≤ n ∧ n < L
  · obtain ⟨rfl, hn0, hnL⟩ := h16
    obtain ⟨b, o, rfl, hc⟩ := hA rfl hn0 hnL
    obtain ⟨k, rfl⟩ : ∃ k : Nat, n = k := ⟨n.toNat, by omega⟩
    have hb := World.block_lt_of_cell? _ _ hc
    simp only [Int.toNat_natCast] at hc hb
    clear hA
    go_enter Tryl.func42, Tryl.ntmps42
    go_wp2
    go_ret
    exact ⟨ret_int (by simp [popsS, hnL, hn0]), (Below.refl _ _).alloc (Nat.le_refl _) _⟩
  · clear hA
    by_cases h : op < 1 ∨ 19 < op
    · obtain ⟨e1, e2, e3, e4, e5, e6, e7, e8, e9, e10, e11, e12, e13, e14, e15, e16, e17, e18, e19⟩ := out_eqs h
      go_enter Tryl.func42, Tryl.ntmps42
      go_wp2
      go_ret
      exact ⟨ret_int (by unfold popsS; rw [if_neg (by omega), if_neg (by omega), if_neg h16]), (Below.refl _ _).alloc (Nat.le_refl _) _⟩
    · rcases op_cases op with h' | h' | rfl | rfl | rfl | rfl | rfl | rfl | rfl | rfl | rfl | rfl | rfl | rfl | rfl | rfl | rfl | rfl | rfl | rfl | rfl
      · exact absurd (Or.inl h') h
      · exact absurd (Or.inr h') h
      rotate_right 4
      · have hn : ¬ (0 ≤ n ∧ n < L) := fun hh => h16 ⟨rfl, hh⟩
        have e : popsS 16 n L A = 0 := by unfold popsS; rw [if_neg (by omega), if_neg (by omega), if_neg h16]
        have H := Lib.hid e
        clear h16 h e
        by_cases h0 : 0 ≤ n
        · have h1 : ¬ n < L := fun hh => hn ⟨h0, hh⟩
          clear hn
          go_enter Tryl.func42, Tryl.ntmps42
          go_wp2
          go_ret
          exact ⟨ret_int H.out.symm, (Below.refl _ _).alloc (Nat.le_refl _) _⟩
        · clear hn
          go_enter Tryl.func42, Tryl.ntmps42
          go_wp2
          go_ret
          exact ⟨ret_int H.out.symm, (Below.refl _ _).alloc (Nat.le_refl _) _⟩
      all_goals
        clear h h16
        go_enter Tryl.func42, Tryl.ntmps42
        go_wp2
        go_ret
        exact ⟨ret_int (by simp [popsS]), (Below.refl _ _).alloc (Nat.le_refl _) _⟩

set_option maxHeartbeats 2000000 in
theorem rpops_any (op n : Int) (ao : Option Addr) (L cap : Nat) (A : Int) (w : World)
    (hA : op = 16 → 0 ≤ n → n < L → ∃ b o, ao = some ⟨b, o, none⟩ ∧ w.cell? ⟨b, o + n.toNat * 4 + 1, none⟩ = some (.int .i64 A)) :
    Calls Tryl.prog 32 #[.agg #[.int .i64 op, .int .i64 n], .slice ao L cap] w fun e w' => e = .returned (.int .i64 (popsS op n L A)) ∧ Below w.heap.size w w' := by
  by_cases h16 : op = 16 ∧ 0 ≤ n ∧ n < L
  · obtain ⟨rfl, hn0, hnL⟩ := h16
    obtain ⟨b, o, rfl, hc⟩ := hA rfl hn0 hnL
    obtain ⟨k, rfl⟩ : ∃ k : Nat, n = k := ⟨n.toNat, by omega⟩
    have hb := World.block_lt_of_cell? _ _ hc
    simp only [Int.toNat_natCast] at hc hb
    clear hA
    go_enter Tryl.func32, Tryl.ntmps32
    go_wp2
    go_ret
    exact ⟨ret_int (by simp [popsS, hnL, hn0]), (Below.refl _ _).alloc (Nat.le_refl _) _⟩
  · clear hA
    by_cases h : op < 1 ∨ 19 < op
    · obtain ⟨e1, e2, e3, e4, e5, e6, e7, e8, e9, e10, e11, e12, e13, e14, e15, e16, e17, e18, e19⟩ := out_eqs h
      rcases h with h | h
      all_goals
        go_enter Tryl.func32, Tryl.ntmps32
        go_wp2
        go_ret
        exact ⟨ret_int (by unfold popsS; rw [if_neg (by omega), if_neg (by omega), if_neg h16]), (Below.refl _ _).alloc (Nat.le_refl _) _⟩
    · rcases op_cases op with h' | h' | rfl | rfl | rfl | rfl | rfl | rfl | rfl | rfl | rfl | rfl | rfl | rfl | rfl | rfl | rfl | rfl | rfl | rfl | rfl
      · exact absurd (Or.inl h') h
      · exact absurd (Or.inr h') h
      rotate_right 4
      · have hn : ¬ (0 ≤ n ∧ n < L) := fun hh => h16 ⟨rfl, hh⟩
        have e : popsS 16 n L A = 0 := by unfold popsS; rw [if_neg (by omega), if_neg (by omega), if_neg h16]
        have H := Lib.hid e
        clear h16 h e
        by_cases h0 : 0 ≤ n
        · have h1 : ¬ n < L := fun hh => hn ⟨h0, hh⟩
          clear hn
          go_enter Tryl.func32, Tryl.ntmps32
          go_wp2
          go_ret
          exact ⟨ret_int H.out.symm, (Below.refl _ _).alloc (Nat.le_refl _) _⟩
        · clear hn
          go_enter Tryl.func32, Tryl.ntmps32
          go_wp2
          go_ret
          exact ⟨ret_int H.out.symm, (Below.refl _ _).alloc (Nat.le_refl _) _⟩
      all_goals
        clear h h16
        go_enter Tryl.func32, Tryl.ntmps32
        go_wp2
        go_ret
        exact ⟨ret_int (by simp [popsS]), (Below.refl _ _).alloc (Nat.le_refl _) _⟩
end Go.Proofs.YtgjdlloiiedpmaaLiftDoor
