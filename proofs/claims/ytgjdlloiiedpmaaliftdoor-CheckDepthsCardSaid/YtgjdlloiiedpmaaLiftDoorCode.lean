/- The instructions' table (package code, and the reference's twin): contracts. No condition. -/
import Derived.Test.YtgjdlloiiedpmaaLiftDoorSpec
namespace Go.Proofs.YtgjdlloiiedpmaaLiftDoor
open Go.RowKit

theorem op_cases (op : Int) : op < 1 ∨ 19 < op ∨ op = 1 ∨ op = 2 ∨ op = 3 ∨ op = 4 ∨ op = 5 ∨ op = 6 ∨ op = 7 ∨ op = 8 ∨ op = 9 ∨ op = 10 ∨ op = 11 ∨ op = 12 ∨ op = 13 ∨ op = 14 ∨ op = 15 ∨ op = 16 ∨ op = 17 ∨ op = 18 ∨ op = 19 := by omega
theorem ret_bool {a b : Bool} (h : a = b) : Ending.returned (.bool a) = .returned (.bool b) := by rw [h]
theorem ret_int {a b : Int} (h : a = b) : Ending.returned (.int .i64 a) = .returned (.int .i64 b) := by rw [h]

theorem out_eqs {op : Int} (h : op < 1 ∨ 19 < op) : (op == 1) = false ∧ (op == 2) = false ∧ (op == 3) = false ∧ (op == 4) = false ∧ (op == 5) = false ∧ (op == 6) = false ∧ (op == 7) = false ∧ (op == 8) = false ∧ (op == 9) = false ∧ (op == 10) = false ∧ (op == 11) = false ∧ (op == 12) = false ∧ (op == 13) = false ∧ (op == 14) = false ∧ (op == 15) = false ∧ (op == 16) = false ∧ (op == 17) = false ∧ (op == 18) = false ∧ (op == 19) = false := by
  refine ⟨?_, ?_, ?_, ?_, ?_, ?_, ?_, ?_, ?_, ?_, ?_, ?_, ?_, ?_, ?_, ?_, ?_, ?_, ?_⟩ <;> (simp; omega)

def hasN (op : Int) : Bool := op == 1 || op == 5 || op == 6 || op == 14 || op == 15 || op == 16
def isOp (op : Int) : Bool := decide (1 ≤ op) && decide (op ≤ 19)

theorem hasN_any (op : Int) (w : World) :
    Calls Tryl.prog 41 #[.int .i64 op] w fun e w' => e = .returned (.bool (hasN op)) ∧ w = w' := by
  rcases op_cases op with h | h | rfl | rfl | rfl | rfl | rfl | rfl | rfl | rfl | rfl | rfl | rfl | rfl | rfl | rfl | rfl | rfl | rfl | rfl | rfl
  all_goals
    go_enter Tryl.func41, Tryl.ntmps41
    go_wp2
    go_ret
    refine ⟨ret_bool ?_, rfl⟩
    first | rfl | (simp [hasN]; omega)

def pushesS (op : Int) : Int := if op = 1 ∨ op = 5 ∨ op = 7 ∨ op = 8 ∨ op = 9 ∨ op = 10 ∨ op = 11 ∨ op = 12 ∨ op = 13 ∨ op = 16 ∨ op = 17 then 1 else if op = 3 ∨ op = 4 then 2 else 0

theorem pushes_any (op n : Int) (w : World) :
    Calls Tryl.prog 43 #[.agg #[.int .i64 op, .int .i64 n]] w fun e w' => e = .returned (.int .i64 (pushesS op)) ∧ Below w.heap.size w w' := by
  rcases op_cases op with h | h | rfl | rfl | rfl | rfl | rfl | rfl | rfl | rfl | rfl | rfl | rfl | rfl | rfl | rfl | rfl | rfl | rfl | rfl | rfl
  all_goals
    go_enter Tryl.func43, Tryl.ntmps43
    go_wp2
    go_ret
    refine ⟨ret_int ?_, (Below.refl _ _).alloc (Nat.le_refl _) _⟩
    first | rfl | (unfold pushesS; rw [if_neg (by omega), if_neg (by omega)])

theorem op_cases0 (op : Int) : op < 0 ∨ 20 ≤ op ∨ op = 0 ∨ op = 1 ∨ op = 2 ∨ op = 3 ∨ op = 4 ∨ op = 5 ∨ op = 6 ∨ op = 7 ∨ op = 8 ∨ op = 9 ∨ op = 10 ∨ op = 11 ∨ op = 12 ∨ op = 13 ∨ op = 14 ∨ op = 15 ∨ op = 16 ∨ op = 17 ∨ op = 18 ∨ op = 19 := by omega
theorem ret_str {P : Ending → Prop} {b : Bool} (s : ByteArray) (h : s.toList.isEmpty = b) (g : ∀ s, s.toList.isEmpty = b → P (.returned (.string s))) : P (.returned (.string s)) := g s h
/-- The instructions' words: empty where there is none. -/
def NameS (op : Int) (e : Ending) : Prop := ∃ s : ByteArray, e = .returned (.string s) ∧ s.toList.isEmpty = !isOp op

theorem k20 {k : Nat} (h : k < 20) : k = 0 ∨ k = 1 ∨ k = 2 ∨ k = 3 ∨ k = 4 ∨ k = 5 ∨ k = 6 ∨ k = 7 ∨ k = 8 ∨ k = 9 ∨ k = 10 ∨ k = 11 ∨ k = 12 ∨ k = 13 ∨ k = 14 ∨ k = 15 ∨ k = 16 ∨ k = 17 ∨ k = 18 ∨ k = 19 := by omega
/-- What 'names' leaves: a new block of twenty texts, the first one empty, no other. -/
def Texts (w w' : World) : Prop := Below w.heap.size w w' ∧ ∀ k : Nat, k < 20 → ∃ s : ByteArray, w'.cell? ⟨w.heap.size, k, none⟩ = some (.string s) ∧ s.toList.isEmpty = decide (k = 0)
theorem texts_of (w : World) (cs : Array Value) (t : Nat) (h : ∀ k : Nat, k < 20 → ∃ s : ByteArray, cs[k]? = some (.string s) ∧ s.toList.isEmpty = decide (k = 0)) : Texts w (w.alloc (.cells cs t)) :=
  ⟨(Below.refl _ _).alloc (Nat.le_refl _) _, fun k hk => by
    obtain ⟨s, h1, h2⟩ := h k hk
    exact ⟨s, by rw [World.cell?_alloc_at _ _ _ _ rfl]; simpa using h1, h2⟩⟩

set_option maxHeartbeats 400000 in
theorem names_any (w : World) : Calls Tryl.prog 51 #[] w fun e w' => e = .returned (.slice (some ⟨w.heap.size, 0, none⟩) 20 20) ∧ Texts w w' := by
  go_enter Tryl.func51, Tryl.ntmps51
  go_wp2
  go_ret
  refine ⟨rfl, texts_of _ _ _ ?_⟩
  intro k hk
  rcases k20 hk with rfl | rfl | rfl | rfl | rfl | rfl | rfl | rfl | rfl | rfl | rfl | rfl | rfl | rfl | rfl | rfl | rfl | rfl | rfl | rfl
  all_goals exact ⟨_, rfl, by decide +kernel⟩

set_option maxHeartbeats 400000 in
theorem name_yes (op : Int) (w : World) (h1 : 1 ≤ op) (h2 : op ≤ 19) :
    Calls Tryl.prog 40 #[.int .i64 op] w fun e w' => NameS op e ∧ Below w.heap.size w w' := by
  obtain ⟨k, rfl⟩ : ∃ k : Nat, op = k := ⟨op.toNat, by omega⟩
  go_enter Tryl.func40, Tryl.ntmps40
  go_wp2_with (go_at_call 51; refine (names_any _).mono ?_; rintro e w' ⟨rfl, hb, ht⟩; obtain ⟨s, hs, he⟩ := ht k (by omega))
  go_ret
  exact ⟨⟨s, rfl, by rw [he, decide_eq_false (by omega)]; simp [isOp]; omega⟩, hb⟩

set_option maxHeartbeats 400000 in
theorem name_no (op : Int) (w : World) (h1 : op < 0 ∨ 20 ≤ op ∨ op = 0) :
    Calls Tryl.prog 40 #[.int .i64 op] w fun e w' => NameS op e ∧ Below w.heap.size w w' := by
  rcases h1 with h1 | h1 | rfl
  all_goals
    go_enter Tryl.func40, Tryl.ntmps40
    go_wp2_with (go_at_call 51; refine (names_any _).mono ?_; rintro e w' ⟨rfl, hb, ht⟩; obtain ⟨s, hs, he⟩ := ht 0 (by omega))
    go_ret
  · exact ⟨⟨_, rfl, by simp [isOp]; omega⟩, hb⟩
  · exact ⟨⟨_, rfl, by simp [isOp]; omega⟩, hb⟩
  · exact ⟨⟨s, rfl, by rw [he]; simp [isOp]⟩, hb⟩

theorem rhasN_any (op : Int) (w : World) :
    Calls Tryl.prog 52 #[.int .i64 op] w fun e w' => e = .returned (.bool (hasN op)) ∧ w = w' := by
  rcases op_cases op with h | h | rfl | rfl | rfl | rfl | rfl | rfl | rfl | rfl | rfl | rfl | rfl | rfl | rfl | rfl | rfl | rfl | rfl | rfl | rfl
  all_goals
    go_enter Tryl.func52, Tryl.ntmps52
    go_wp2
    go_ret
    refine ⟨ret_bool ?_, rfl⟩
    first | rfl | (simp [hasN]; omega)

set_option maxHeartbeats 2000000 in
theorem rpushes_any (op n : Int) (w : World) :
    Calls Tryl.prog 33 #[.agg #[.int .i64 op, .int .i64 n]] w fun e w' => e = .returned (.int .i64 (pushesS op)) ∧ Below w.heap.size w w' := by
  by_cases h : op < 1 ∨ 19 < op
  · obtain ⟨e1, e2, e3, e4, e5, e6, e7, e8, e9, e10, e11, e12, e13, e14, e15, e16, e17, e18, e19⟩ := out_eqs h
    rcases h with h | h
    all_goals
      go_enter Tryl.func33, Tryl.ntmps33
      go_wp2
      go_ret
      exact ⟨ret_int (by unfold pushesS; rw [if_neg (by omega), if_neg (by omega)]), (Below.refl _ _).alloc (Nat.le_refl _) _⟩
  · rcases op_cases op with h' | h' | rfl | rfl | rfl | rfl | rfl | rfl | rfl | rfl | rfl | rfl | rfl | rfl | rfl | rfl | rfl | rfl | rfl | rfl | rfl
    · exact absurd (Or.inl h') h
    · exact absurd (Or.inr h') h
    all_goals
      clear h
      go_enter Tryl.func33, Tryl.ntmps33
      go_wp2
      go_ret
      exact ⟨rfl, (Below.refl _ _).alloc (Nat.le_refl _) _⟩
end Go.Proofs.YtgjdlloiiedpmaaLiftDoor
