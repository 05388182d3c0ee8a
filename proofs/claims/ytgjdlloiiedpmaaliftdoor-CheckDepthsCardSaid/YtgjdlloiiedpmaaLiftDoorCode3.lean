/- Where an instruction goes on (package code, and the reference's twin): contracts. No condition. -/
import Derived.Test.YtgjdlloiiedpmaaLiftDoorCode2
namespace Go.Proofs.YtgjdlloiiedpmaaLiftDoor
open Go.RowKit

def nextS (op n : Int) (at' : Int) : List Int :=
  if op = 14 then [n] else if op = 15 ∧ n ≠ at' + 1 then [at' + 1, n] else if op < 1 ∨ 18 ≤ op then [] else [at' + 1]

/-- A slice value over a block that is no older than number B, of these numbers. -/
structure NewInts (B : Nat) (w : World) (v : Value) (l : List Int) : Prop where
  ex : ∃ ao cap, v = .slice ao l.length cap ∧ (l ≠ [] → ∃ b, B ≤ b ∧ ao = some ⟨b, 0, none⟩ ∧ ∀ (j : Nat) (x : Int), l[j]? = some x → w.cell? ⟨b, j, none⟩ = some (.int .i64 x))
/-- A slice value of the call's own, of these numbers. -/
def NextE (l : List Int) (w : World) (e : Ending) (w' : World) : Prop := ∃ v, e = .returned v ∧ NewInts w.heap.size w' v l ∧ Below w.heap.size w w'

theorem rowAt_nil (B : Nat) (w : World) : NewInts B w (.slice none 0 0) [] := ⟨none, 0, rfl, fun h => absurd rfl h⟩
theorem rowAt_one (B0 : Nat) (w : World) (a : Int) (t B : Nat) (hB : B = w.heap.size) (h0 : B0 ≤ B) : NewInts B0 (w.alloc (.cells #[.int .i64 a] t)) (.slice (some ⟨B, 0, none⟩) 1 1) [a] :=
  ⟨_, 1, rfl, fun _ => ⟨_, h0, rfl, fun j x h => by
    rw [World.cell?_alloc_at _ _ _ _ hB]
    match j, h with
    | 0, h => simpa using h⟩⟩
theorem rowAt_two (B0 : Nat) (w : World) (a b : Int) (t B : Nat) (hB : B = w.heap.size) (h0 : B0 ≤ B) : NewInts B0 (w.alloc (.cells #[.int .i64 a, .int .i64 b] t)) (.slice (some ⟨B, 0, none⟩) 2 2) [a, b] :=
  ⟨_, 2, rfl, fun _ => ⟨_, h0, rfl, fun j x h => by
    rw [World.cell?_alloc_at _ _ _ _ hB]
    match j, h with
    | 0, h => simpa using h
    | 1, h => simpa using h⟩⟩

theorem name_any (op : Int) (w : World) :
    Calls Tryl.prog 40 #[.int .i64 op] w fun e w' => NameS op e ∧ Below w.heap.size w w' := by
  by_cases h : 1 ≤ op ∧ op ≤ 19
  · exact name_yes op w h.1 h.2
  · exact name_no op w (by omega)

set_option maxHeartbeats 1000000 in
theorem next_jump (n k : Int) (w : World) :
    Calls Tryl.prog 44 #[.agg #[.int .i64 14, .int .i64 n], .int .i64 k] w fun e w' => NextE (nextS 14 n k) w e w' := by
  go_enter Tryl.func44, Tryl.ntmps44
  go_wp2
  go_ret
  exact ⟨_, rfl, by simpa [nextS] using rowAt_one _ _ n _ _ (by simp) (by simp), ((Below.refl _ _).alloc (Nat.le_refl _) _).alloc (by simp) _⟩

set_option maxHeartbeats 1000000 in
theorem next_zero (n k : Int) (w : World) (hk : 0 ≤ k) (hk' : k ≤ 2147483647) (hn : n ≠ k + 1) :
    Calls Tryl.prog 44 #[.agg #[.int .i64 15, .int .i64 n], .int .i64 k] w fun e w' => NextE (nextS 15 n k) w e w' := by
  have hne : (n != k + 1) = true := by simp [hn]
  go_enter Tryl.func44, Tryl.ntmps44
  go_wp2
  go_ret
  exact ⟨_, rfl, by simpa [nextS, hn] using rowAt_two _ _ (k + 1) n _ _ (by simp) (by simp), ((Below.refl _ _).alloc (Nat.le_refl _) _).alloc (by simp) _⟩

set_option maxHeartbeats 1000000 in
theorem next_end (op n k : Int) (w : World) (hop : op = 18 ∨ op = 19) :
    Calls Tryl.prog 44 #[.agg #[.int .i64 op, .int .i64 n], .int .i64 k] w fun e w' => NextE (nextS op n k) w e w' := by
  rcases hop with rfl | rfl
  all_goals
    go_enter Tryl.func44, Tryl.ntmps44
    go_wp2
    go_ret
    exact ⟨_, rfl, by simpa [nextS] using rowAt_nil _ _, ((Below.refl _ _).alloc (Nat.le_refl _) _)⟩

set_option maxHeartbeats 1000000 in
theorem next_none (op n k : Int) (w : World) (hop : op < 1 ∨ 19 < op) :
    Calls Tryl.prog 44 #[.agg #[.int .i64 op, .int .i64 n], .int .i64 k] w fun e w' => NextE (nextS op n k) w e w' := by
  obtain ⟨e1, e2, e3, e4, e5, e6, e7, e8, e9, e10, e11, e12, e13, e14, e15, e16, e17, e18, e19⟩ := out_eqs hop
  have hns : nextS op n k = [] := by unfold nextS; rw [if_neg (by omega), if_neg (by omega), if_pos (by omega)]
  have H := Lib.hid hns
  have hio : isOp op = false := by simp [isOp]; omega
  clear hns
  go_enter Tryl.func44, Tryl.ntmps44
  go_wp2_with (go_at_call 40; refine (name_any _ _).mono ?_; rintro e w' ⟨⟨s, rfl, hs⟩, hb⟩; rw [hio, Bool.not_false] at hs)
  go_ret
  exact ⟨_, rfl, by rw [H.out]; exact rowAt_nil _ _, ((Below.refl _ _).alloc (Nat.le_refl _) _).trans (hb.mono (by simp))⟩

set_option maxHeartbeats 1000000 in
theorem next_on (op n k : Int) (w : World) (hk : 0 ≤ k) (hk' : k ≤ 2147483647) (hop : 1 ≤ op ∧ op ≤ 17 ∧ op ≠ 14 ∧ (op = 15 → n = k + 1)) :
    Calls Tryl.prog 44 #[.agg #[.int .i64 op, .int .i64 n], .int .i64 k] w fun e w' => NextE (nextS op n k) w e w' := by
  have hns : nextS op n k = [k + 1] := by
    unfold nextS; rw [if_neg hop.2.2.1, if_neg (fun h => h.2 (hop.2.2.2 h.1)), if_neg (by omega)]
  have H := Lib.hid hns
  have hio : isOp op = true := by simp [isOp]; omega
  clear hns
  have e14 : (op == 14) = false := by simp; omega
  have e18 : (op == 18) = false := by simp; omega
  have e19 : (op == 19) = false := by simp; omega
  by_cases h15 : op = 15
  · have hn : (n != k + 1) = false := by simp; exact hop.2.2.2 h15
    subst h15
    clear hop e14 e18 e19 hio
    go_enter Tryl.func44, Tryl.ntmps44
    go_wp2_with (go_at_call 40; refine (name_any _ _).mono ?_; rintro e w' ⟨⟨s, rfl, hs⟩, hb⟩; have hs' : s.toList.isEmpty = false := hs; clear hs; have hz := hb.size)
    go_ret
    exact ⟨_, rfl, by rw [H.out]; exact rowAt_one _ _ _ _ _ rfl (by simp at hz; omega), (((Below.refl _ _).alloc (Nat.le_refl _) _).trans (hb.mono (by simp))).alloc (by simp at hz; omega) _⟩
  · have e15 : (op == 15) = false := by simp [h15]
    clear hop h15
    go_enter Tryl.func44, Tryl.ntmps44
    go_wp2_with (go_at_call 40; refine (name_any _ _).mono ?_; rintro e w' ⟨⟨s, rfl, hs⟩, hb⟩; rw [hio, Bool.not_true] at hs; have hz := hb.size)
    go_ret
    exact ⟨_, rfl, by rw [H.out]; exact rowAt_one _ _ _ _ _ rfl (by simp at hz; omega), (((Below.refl _ _).alloc (Nat.le_refl _) _).trans (hb.mono (by simp))).alloc (by simp at hz; omega) _⟩

theorem next_any (op n k : Int) (w : World) (hk : 0 ≤ k) (hk' : k ≤ 2147483647) :
    Calls Tryl.prog 44 #[.agg #[.int .i64 op, .int .i64 n], .int .i64 k] w fun e w' => NextE (nextS op n k) w e w' := by
  by_cases h14 : op = 14
  · subst h14; exact next_jump n k w
  by_cases h15 : op = 15 ∧ n ≠ k + 1
  · obtain ⟨rfl, hn⟩ := h15; exact next_zero n k w hk hk' hn
  by_cases h18 : op = 18 ∨ op = 19
  · exact next_end op n k w h18
  by_cases h0 : op < 1 ∨ 19 < op
  · exact next_none op n k w h0
  · exact next_on op n k w hk hk' ⟨by omega, by omega, h14, fun h => by
      rcases Decidable.em (n = k + 1) with g | g
      · exact g
      · exact absurd ⟨h, g⟩ h15⟩

set_option maxHeartbeats 2000000 in
theorem rnext_any (op n k : Int) (w : World) (hk : 0 ≤ k) (hk' : k ≤ 2147483647) :
    Calls Tryl.prog 34 #[.agg #[.int .i64 op, .int .i64 n], .int .i64 k] w fun e w' => NextE (nextS op n k) w e w' := by
  by_cases h0 : op < 1 ∨ 17 < op
  · have hns : nextS op n k = [] := by unfold nextS; rw [if_neg (by omega), if_neg (by omega), if_pos (by omega)]
    have H := Lib.hid hns
    clear hns
    rcases h0 with h0 | h0
    all_goals
      go_enter Tryl.func34, Tryl.ntmps34
      go_wp2
      go_ret
      exact ⟨_, rfl, by rw [H.out]; exact rowAt_nil _ _, (Below.refl _ _).alloc (Nat.le_refl _) _⟩
  · have hl : 1 ≤ op := by omega
    have hh : op ≤ 17 := by omega
    clear h0
    by_cases h14 : op = 14
    · subst h14
      go_enter Tryl.func34, Tryl.ntmps34
      go_wp2
      go_ret
      exact ⟨_, rfl, by simpa [nextS] using rowAt_one _ _ n _ _ (by simp) (by simp), ((Below.refl _ _).alloc (Nat.le_refl _) _).alloc (by simp) _⟩
    by_cases h15 : op = 15
    · subst h15
      by_cases hn : n = k + 1
      · have hne : (n != k + 1) = false := by simp [hn]
        have hns : nextS 15 n k = [k + 1] := by unfold nextS; rw [if_neg (by omega), if_neg (by omega), if_neg (by omega)]
        have H := Lib.hid hns
        clear hns hn
        go_enter Tryl.func34, Tryl.ntmps34
        go_wp2
        go_ret
        exact ⟨_, rfl, by rw [H.out]; exact rowAt_one _ _ _ _ _ (by simp) (by simp), ((Below.refl _ _).alloc (Nat.le_refl _) _).alloc (by simp) _⟩
      · have hne : (n != k + 1) = true := by simp [hn]
        go_enter Tryl.func34, Tryl.ntmps34
        go_wp2
        go_ret
        exact ⟨_, rfl, by simpa [nextS, hn] using rowAt_two _ _ (k + 1) n _ _ (by simp) (by simp), ((Below.refl _ _).alloc (Nat.le_refl _) _).alloc (by simp) _⟩
    · have e14 : (op == 14) = false := by simp [h14]
      have e15 : (op == 15) = false := by simp [h15]
      have hns : nextS op n k = [k + 1] := by unfold nextS; rw [if_neg h14, if_neg (by omega), if_neg (by omega)]
      have H := Lib.hid hns
      clear hns h14 h15
      go_enter Tryl.func34, Tryl.ntmps34
      go_wp2
      go_ret
      exact ⟨_, rfl, by rw [H.out]; exact rowAt_one _ _ _ _ _ (by simp) (by simp), ((Below.refl _ _).alloc (Nat.le_refl _) _).alloc (by simp) _⟩
end Go.Proofs.YtgjdlloiiedpmaaLiftDoor
