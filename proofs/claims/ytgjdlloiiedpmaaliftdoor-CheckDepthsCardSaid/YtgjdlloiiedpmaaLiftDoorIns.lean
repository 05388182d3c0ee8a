/- '(*checker).ins': an instruction. No condition. -/
import Derived.Test.YtgjdlloiiedpmaaLiftDoorOwn
namespace Go.Proofs.YtgjdlloiiedpmaaLiftDoor
open Go.RowKit

def insS (L : Nat) (locals : Int) (C : Nat) (op n : Int) : Option Int :=
  if ¬ (isOp op = true ∧ (hasN op = true ∨ n = 0)) then some 10
  else if (op = 5 ∨ op = 6) ∧ ¬ (0 ≤ n ∧ n < locals) then some 13
  else if (op = 14 ∨ op = 15) ∧ ¬ (0 ≤ n ∧ n < C) then some 11
  else if op = 16 ∧ ¬ (0 ≤ n ∧ n < L) then some 14 else none

/-- What a check of an instruction leaves: new blocks alone. -/
def InsE (f i : Int) (r : Option Int) (w : World) (e : Ending) (w' : World) : Prop := Gives f i r e ∧ Kp No w w'

theorem beq_false_of {a b : Int} (h : a ≠ b) : (a == b) = false := by simp [h]

section
variable (cb L C : Nat) (nm : ByteArray) (fa fl op n f i : Int) (fao cao : Option Addr) (fcap ccap : Nat) (w : World)
  (c0 : w.cell? ⟨cb, 0, none⟩ = some (.slice fao L fcap)) (c5 : w.cell? ⟨cb, 5, none⟩ = some (.int .i64 f)) (c6 : w.cell? ⟨cb, 6, none⟩ = some (.int .i64 i))

include c5 c6 in
set_option maxHeartbeats 2000000 in
theorem ins_noOp (h : isOp op = false) :
    Calls Tryl.prog 28 #[.pointer (some ⟨cb, 0, none⟩), .agg #[.string nm, .int .i64 fa, .int .i64 fl, .slice cao C ccap], .agg #[.int .i64 op, .int .i64 n]] w (InsE f i (some 10) w) := by
  have hcb := World.block_lt_of_cell? _ _ c5
  simp only at hcb
  go_enter Tryl.func28, Tryl.ntmps28
  go_wp2_with (first | (go_at_call 40; (with_reducible refine (name_any _ _).mono ?_); rintro e w' ⟨⟨s, rfl, hs⟩, hb⟩; rw [h] at hs; have hs' : s.toList.isEmpty = true := hs; clear hs; have k5 := cell_later hb (a := ⟨cb, 5, none⟩) (v := .int .i64 f) (cell_al (cell_al c5 _) _); have k6 := cell_later hb (a := ⟨cb, 6, none⟩) (v := .int .i64 i) (cell_al (cell_al c6 _) _)) | (go_at_call 26; (with_reducible refine (need_no cb f i _ _ (by assumption) (by assumption)).mono ?_); rintro e w' ⟨rfl, n, rfl⟩))
  exact ⟨rfl, rfl, ((((Kp.refl _ _).alloc _).alloc _).trans (Kp.of_new hb) (fun _ _ h => h)).drewN _⟩

end
/-- What the two boxes hold behind a call that leaves old memory alone. -/
theorem boxes {w wx : World} {nm : ByteArray} {fa fl op n : Int} {cao : Option Addr} {C ccap t u : Nat}
    (hb : Below ((w.alloc (.cells #[.string nm, .int .i64 fa, .int .i64 fl, .slice cao C ccap] t)).alloc (.cells #[.int .i64 op, .int .i64 n] u)).heap.size ((w.alloc (.cells #[.string nm, .int .i64 fa, .int .i64 fl, .slice cao C ccap] t)).alloc (.cells #[.int .i64 op, .int .i64 n] u)) wx) :
    wx.cell? ⟨w.heap.size, 0, none⟩ = some (.string nm) ∧ wx.cell? ⟨w.heap.size, 1, none⟩ = some (.int .i64 fa) ∧ wx.cell? ⟨w.heap.size, 2, none⟩ = some (.int .i64 fl) ∧ wx.cell? ⟨w.heap.size, 3, none⟩ = some (.slice cao C ccap) ∧
      wx.cell? ⟨w.heap.size + 1, 0, none⟩ = some (.int .i64 op) ∧ wx.cell? ⟨w.heap.size + 1, 1, none⟩ = some (.int .i64 n) := by
  have h1 := (Kp.of_new hb).blk (blk_alloc (blk_new w (.cells #[.string nm, .int .i64 fa, .int .i64 fl, .slice cao C ccap] t) _ rfl) _) (fun h => h)
  have h2 := (Kp.of_new hb).blk (blk_new (w.alloc (.cells #[.string nm, .int .i64 fa, .int .i64 fl, .slice cao C ccap] t)) (.cells #[.int .i64 op, .int .i64 n] u) (w.heap.size + 1) (by simp)) (fun h => h)
  exact ⟨cell_blk h1 0 rfl, cell_blk h1 1 rfl, cell_blk h1 2 rfl, cell_blk h1 3 rfl, cell_blk h2 0 rfl, cell_blk h2 1 rfl⟩

section
variable (cb L C : Nat) (nm : ByteArray) (fa fl op n f i : Int) (fao cao : Option Addr) (fcap ccap : Nat) (w : World)
  (c0 : w.cell? ⟨cb, 0, none⟩ = some (.slice fao L fcap)) (c5 : w.cell? ⟨cb, 5, none⟩ = some (.int .i64 f)) (c6 : w.cell? ⟨cb, 6, none⟩ = some (.int .i64 i))

include c0 c5 c6 in
set_option maxHeartbeats 2000000 in
theorem ins_noN (h : isOp op = true) (hN : hasN op = false) (hn : n ≠ 0) :
    Calls Tryl.prog 28 #[.pointer (some ⟨cb, 0, none⟩), .agg #[.string nm, .int .i64 fa, .int .i64 fl, .slice cao C ccap], .agg #[.int .i64 op, .int .i64 n]] w (InsE f i (some 10) w) := by
  have hcb := World.block_lt_of_cell? _ _ c5
  simp only at hcb
  have e1 : (n == 0) = false := by simp [hn]
  go_enter Tryl.func28, Tryl.ntmps28
  go_wp2_with (first | (go_at_call 40; (with_reducible refine (name_any _ _).mono ?_); rintro e w' ⟨⟨s, rfl, hs⟩, hb⟩; rw [h] at hs; have hs' : s.toList.isEmpty = false := hs; clear hs; have k0 := cell_later hb (cell_al (cell_al c0 _) _); have k5 := cell_later hb (cell_al (cell_al c5 _) _); have k6 := cell_later hb (cell_al (cell_al c6 _) _); obtain ⟨m0, m1, m2, m3, x0, x1⟩ := boxes hb) | (go_at_call 41; (with_reducible refine (hasN_any _ _).mono ?_); rintro e w' ⟨rfl, rfl⟩) | (go_at_call 26; (with_reducible refine (need_no cb f i _ _ (by assumption) (by assumption)).mono ?_); rintro e w' ⟨rfl, q, rfl⟩) | (go_at_call 26; (with_reducible refine (need_yes _ _ _).mono ?_); rintro e w' ⟨rfl, rfl⟩))
  exact ⟨rfl, rfl, ((((Kp.refl _ _).alloc _).alloc _).trans (Kp.of_new hb) (fun _ _ h => h)).drewN _⟩

include c0 c5 c6 in
set_option maxHeartbeats 2000000 in
theorem ins_plain (h : isOp op = true) (hN : hasN op = true ∨ n = 0) (h5 : op ≠ 5) (h6 : op ≠ 6) (h14 : op ≠ 14) (h15 : op ≠ 15) (h16 : op ≠ 16) :
    Calls Tryl.prog 28 #[.pointer (some ⟨cb, 0, none⟩), .agg #[.string nm, .int .i64 fa, .int .i64 fl, .slice cao C ccap], .agg #[.int .i64 op, .int .i64 n]] w (InsE f i none w) := by
  have hcb := World.block_lt_of_cell? _ _ c5
  simp only at hcb
  have g5 := beq_false_of h5
  have g6 := beq_false_of h6
  have g14 := beq_false_of h14
  have g15 := beq_false_of h15
  have g16 := beq_false_of h16
  clear h5 h6 h14 h15 h16
  by_cases hN' : hasN op = true
  · clear hN
    go_enter Tryl.func28, Tryl.ntmps28
    go_wp2_with (first | (go_at_call 40; (with_reducible refine (name_any _ _).mono ?_); rintro e w' ⟨⟨s, rfl, hs⟩, hb⟩; rw [h] at hs; have hs' : s.toList.isEmpty = false := hs; clear hs; have k0 := cell_later hb (cell_al (cell_al c0 _) _); have k5 := cell_later hb (cell_al (cell_al c5 _) _); have k6 := cell_later hb (cell_al (cell_al c6 _) _); obtain ⟨m0, m1, m2, m3, x0, x1⟩ := boxes hb) | (go_at_call 41; (with_reducible refine (hasN_any _ _).mono ?_); rintro e w' ⟨rfl, rfl⟩) | (go_at_call 26; (with_reducible refine (need_no cb f i _ _ (by assumption) (by assumption)).mono ?_); rintro e w' ⟨rfl, q, rfl⟩) | (go_at_call 26; (with_reducible refine (need_yes _ _ _).mono ?_); rintro e w' ⟨rfl, rfl⟩))
    go_end0
    exact ⟨rfl, (((Kp.refl _ _).alloc _).alloc _).trans (Kp.of_new hb) (fun _ _ h => h)⟩
  · have e1 : (n == 0) = true := by simpa [hN'] using hN
    have hN'' : hasN op = false := by simpa using hN'
    clear hN hN'
    go_enter Tryl.func28, Tryl.ntmps28
    go_wp2_with (first | (go_at_call 40; (with_reducible refine (name_any _ _).mono ?_); rintro e w' ⟨⟨s, rfl, hs⟩, hb⟩; rw [h] at hs; have hs' : s.toList.isEmpty = false := hs; clear hs; have k0 := cell_later hb (cell_al (cell_al c0 _) _); have k5 := cell_later hb (cell_al (cell_al c5 _) _); have k6 := cell_later hb (cell_al (cell_al c6 _) _); obtain ⟨m0, m1, m2, m3, x0, x1⟩ := boxes hb) | (go_at_call 41; (with_reducible refine (hasN_any _ _).mono ?_); rintro e w' ⟨rfl, rfl⟩) | (go_at_call 26; (with_reducible refine (need_no cb f i _ _ (by assumption) (by assumption)).mono ?_); rintro e w' ⟨rfl, q, rfl⟩) | (go_at_call 26; (with_reducible refine (need_yes _ _ _).mono ?_); rintro e w' ⟨rfl, rfl⟩))
    go_end0
    exact ⟨rfl, (((Kp.refl _ _).alloc _).alloc _).trans (Kp.of_new hb) (fun _ _ h => h)⟩
include c0 c5 c6 in
set_option maxHeartbeats 2000000 in
theorem ins_load_yes (h0 : 0 ≤ n) (h1 : n < fl) :
    Calls Tryl.prog 28 #[.pointer (some ⟨cb, 0, none⟩), .agg #[.string nm, .int .i64 fa, .int .i64 fl, .slice cao C ccap], .agg #[.int .i64 5, .int .i64 n]] w (InsE f i none w) := by
  have hcb := World.block_lt_of_cell? _ _ c5
  simp only at hcb
  have d0 : decide (0 ≤ n) = true := by simp; omega
  have d1 : decide (n < fl) = true := by simp; omega
  go_enter Tryl.func28, Tryl.ntmps28
  go_wp2_with (first | (go_at_call 40; (with_reducible refine (name_any _ _).mono ?_); rintro e w' ⟨⟨s, rfl, hs⟩, hb⟩; have hs' : s.toList.isEmpty = false := hs; clear hs; have k0 := cell_later hb (cell_al (cell_al c0 _) _); have k5 := cell_later hb (cell_al (cell_al c5 _) _); have k6 := cell_later hb (cell_al (cell_al c6 _) _); obtain ⟨m0, m1, m2, m3, x0, x1⟩ := boxes hb) | (go_at_call 41; (with_reducible refine (hasN_any _ _).mono ?_); rintro e w' ⟨rfl, rfl⟩) | (go_at_call 26; (with_reducible refine (need_no cb f i _ _ (by assumption) (by assumption)).mono ?_); rintro e w' ⟨rfl, q, rfl⟩) | (go_at_call 26; (with_reducible refine (need_yes _ _ _).mono ?_); rintro e w' ⟨rfl, rfl⟩))
  go_end0
  exact ⟨rfl, (((Kp.refl _ _).alloc _).alloc _).trans (Kp.of_new hb) (fun _ _ h => h)⟩

include c0 c5 c6 in
set_option maxHeartbeats 2000000 in
theorem ins_load_no (h1 : ¬ (0 ≤ n ∧ n < fl)) :
    Calls Tryl.prog 28 #[.pointer (some ⟨cb, 0, none⟩), .agg #[.string nm, .int .i64 fa, .int .i64 fl, .slice cao C ccap], .agg #[.int .i64 5, .int .i64 n]] w (InsE f i (some 13) w) := by
  have hcb := World.block_lt_of_cell? _ _ c5
  simp only at hcb
  rcases (show n < 0 ∨ (0 ≤ n ∧ fl ≤ n) by omega) with h | ⟨h, h'⟩
  · have d0 : decide (0 ≤ n) = false := by simp; omega
    clear h1
    go_enter Tryl.func28, Tryl.ntmps28
    go_wp2_with (first | (go_at_call 40; (with_reducible refine (name_any _ _).mono ?_); rintro e w' ⟨⟨s, rfl, hs⟩, hb⟩; have hs' : s.toList.isEmpty = false := hs; clear hs; have k0 := cell_later hb (cell_al (cell_al c0 _) _); have k5 := cell_later hb (cell_al (cell_al c5 _) _); have k6 := cell_later hb (cell_al (cell_al c6 _) _); obtain ⟨m0, m1, m2, m3, x0, x1⟩ := boxes hb) | (go_at_call 41; (with_reducible refine (hasN_any _ _).mono ?_); rintro e w' ⟨rfl, rfl⟩) | (go_at_call 26; (with_reducible refine (need_no cb f i _ _ (by assumption) (by assumption)).mono ?_); rintro e w' ⟨rfl, q, rfl⟩) | (go_at_call 26; (with_reducible refine (need_yes _ _ _).mono ?_); rintro e w' ⟨rfl, rfl⟩))
    exact ⟨rfl, rfl, ((((Kp.refl _ _).alloc _).alloc _).trans (Kp.of_new hb) (fun _ _ h => h)).drewN _⟩
  · have d0 : decide (0 ≤ n) = true := by simp; omega
    have d1 : decide (n < fl) = false := by simp; omega
    clear h1
    go_enter Tryl.func28, Tryl.ntmps28
    go_wp2_with (first | (go_at_call 40; (with_reducible refine (name_any _ _).mono ?_); rintro e w' ⟨⟨s, rfl, hs⟩, hb⟩; have hs' : s.toList.isEmpty = false := hs; clear hs; have k0 := cell_later hb (cell_al (cell_al c0 _) _); have k5 := cell_later hb (cell_al (cell_al c5 _) _); have k6 := cell_later hb (cell_al (cell_al c6 _) _); obtain ⟨m0, m1, m2, m3, x0, x1⟩ := boxes hb) | (go_at_call 41; (with_reducible refine (hasN_any _ _).mono ?_); rintro e w' ⟨rfl, rfl⟩) | (go_at_call 26; (with_reducible refine (need_no cb f i _ _ (by assumption) (by assumption)).mono ?_); rintro e w' ⟨rfl, q, rfl⟩) | (go_at_call 26; (with_reducible refine (need_yes _ _ _).mono ?_); rintro e w' ⟨rfl, rfl⟩))
    exact ⟨rfl, rfl, ((((Kp.refl _ _).alloc _).alloc _).trans (Kp.of_new hb) (fun _ _ h => h)).drewN _⟩

include c0 c5 c6 in
set_option maxHeartbeats 2000000 in
theorem ins_store_yes (h0 : 0 ≤ n) (h1 : n < fl) :
    Calls Tryl.prog 28 #[.pointer (some ⟨cb, 0, none⟩), .agg #[.string nm, .int .i64 fa, .int .i64 fl, .slice cao C ccap], .agg #[.int .i64 6, .int .i64 n]] w (InsE f i none w) := by
  have hcb := World.block_lt_of_cell? _ _ c5
  simp only at hcb
  have d0 : decide (0 ≤ n) = true := by simp; omega
  have d1 : decide (n < fl) = true := by simp; omega
  go_enter Tryl.func28, Tryl.ntmps28
  go_wp2_with (first | (go_at_call 40; (with_reducible refine (name_any _ _).mono ?_); rintro e w' ⟨⟨s, rfl, hs⟩, hb⟩; have hs' : s.toList.isEmpty = false := hs; clear hs; have k0 := cell_later hb (cell_al (cell_al c0 _) _); have k5 := cell_later hb (cell_al (cell_al c5 _) _); have k6 := cell_later hb (cell_al (cell_al c6 _) _); obtain ⟨m0, m1, m2, m3, x0, x1⟩ := boxes hb) | (go_at_call 41; (with_reducible refine (hasN_any _ _).mono ?_); rintro e w' ⟨rfl, rfl⟩) | (go_at_call 26; (with_reducible refine (need_no cb f i _ _ (by assumption) (by assumption)).mono ?_); rintro e w' ⟨rfl, q, rfl⟩) | (go_at_call 26; (with_reducible refine (need_yes _ _ _).mono ?_); rintro e w' ⟨rfl, rfl⟩))
  go_end0
  exact ⟨rfl, (((Kp.refl _ _).alloc _).alloc _).trans (Kp.of_new hb) (fun _ _ h => h)⟩

include c0 c5 c6 in
set_option maxHeartbeats 2000000 in
theorem ins_store_no (h1 : ¬ (0 ≤ n ∧ n < fl)) :
    Calls Tryl.prog 28 #[.pointer (some ⟨cb, 0, none⟩), .agg #[.string nm, .int .i64 fa, .int .i64 fl, .slice cao C ccap], .agg #[.int .i64 6, .int .i64 n]] w (InsE f i (some 13) w) := by
  have hcb := World.block_lt_of_cell? _ _ c5
  simp only at hcb
  rcases (show n < 0 ∨ (0 ≤ n ∧ fl ≤ n) by omega) with h | ⟨h, h'⟩
  · have d0 : decide (0 ≤ n) = false := by simp; omega
    clear h1
    go_enter Tryl.func28, Tryl.ntmps28
    go_wp2_with (first | (go_at_call 40; (with_reducible refine (name_any _ _).mono ?_); rintro e w' ⟨⟨s, rfl, hs⟩, hb⟩; have hs' : s.toList.isEmpty = false := hs; clear hs; have k0 := cell_later hb (cell_al (cell_al c0 _) _); have k5 := cell_later hb (cell_al (cell_al c5 _) _); have k6 := cell_later hb (cell_al (cell_al c6 _) _); obtain ⟨m0, m1, m2, m3, x0, x1⟩ := boxes hb) | (go_at_call 41; (with_reducible refine (hasN_any _ _).mono ?_); rintro e w' ⟨rfl, rfl⟩) | (go_at_call 26; (with_reducible refine (need_no cb f i _ _ (by assumption) (by assumption)).mono ?_); rintro e w' ⟨rfl, q, rfl⟩) | (go_at_call 26; (with_reducible refine (need_yes _ _ _).mono ?_); rintro e w' ⟨rfl, rfl⟩))
    exact ⟨rfl, rfl, ((((Kp.refl _ _).alloc _).alloc _).trans (Kp.of_new hb) (fun _ _ h => h)).drewN _⟩
  · have d0 : decide (0 ≤ n) = true := by simp; omega
    have d1 : decide (n < fl) = false := by simp; omega
    clear h1
    go_enter Tryl.func28, Tryl.ntmps28
    go_wp2_with (first | (go_at_call 40; (with_reducible refine (name_any _ _).mono ?_); rintro e w' ⟨⟨s, rfl, hs⟩, hb⟩; have hs' : s.toList.isEmpty = false := hs; clear hs; have k0 := cell_later hb (cell_al (cell_al c0 _) _); have k5 := cell_later hb (cell_al (cell_al c5 _) _); have k6 := cell_later hb (cell_al (cell_al c6 _) _); obtain ⟨m0, m1, m2, m3, x0, x1⟩ := boxes hb) | (go_at_call 41; (with_reducible refine (hasN_any _ _).mono ?_); rintro e w' ⟨rfl, rfl⟩) | (go_at_call 26; (with_reducible refine (need_no cb f i _ _ (by assumption) (by assumption)).mono ?_); rintro e w' ⟨rfl, q, rfl⟩) | (go_at_call 26; (with_reducible refine (need_yes _ _ _).mono ?_); rintro e w' ⟨rfl, rfl⟩))
    exact ⟨rfl, rfl, ((((Kp.refl _ _).alloc _).alloc _).trans (Kp.of_new hb) (fun _ _ h => h)).drewN _⟩

include c0 c5 c6 in
set_option maxHeartbeats 2000000 in
theorem ins_jump_yes (h0 : 0 ≤ n) (h1 : n < (C : Int)) :
    Calls Tryl.prog 28 #[.pointer (some ⟨cb, 0, none⟩), .agg #[.string nm, .int .i64 fa, .int .i64 fl, .slice cao C ccap], .agg #[.int .i64 14, .int .i64 n]] w (InsE f i none w) := by
  have hcb := World.block_lt_of_cell? _ _ c5
  simp only at hcb
  have d0 : decide (0 ≤ n) = true := by simp; omega
  have d1 : decide (n < (C : Int)) = true := by simp; omega
  go_enter Tryl.func28, Tryl.ntmps28
  go_wp2_with (first | (go_at_call 40; (with_reducible refine (name_any _ _).mono ?_); rintro e w' ⟨⟨s, rfl, hs⟩, hb⟩; have hs' : s.toList.isEmpty = false := hs; clear hs; have k0 := cell_later hb (cell_al (cell_al c0 _) _); have k5 := cell_later hb (cell_al (cell_al c5 _) _); have k6 := cell_later hb (cell_al (cell_al c6 _) _); obtain ⟨m0, m1, m2, m3, x0, x1⟩ := boxes hb) | (go_at_call 41; (with_reducible refine (hasN_any _ _).mono ?_); rintro e w' ⟨rfl, rfl⟩) | (go_at_call 26; (with_reducible refine (need_no cb f i _ _ (by assumption) (by assumption)).mono ?_); rintro e w' ⟨rfl, q, rfl⟩) | (go_at_call 26; (with_reducible refine (need_yes _ _ _).mono ?_); rintro e w' ⟨rfl, rfl⟩))
  go_end0
  exact ⟨rfl, (((Kp.refl _ _).alloc _).alloc _).trans (Kp.of_new hb) (fun _ _ h => h)⟩

include c0 c5 c6 in
set_option maxHeartbeats 2000000 in
theorem ins_jump_no (h1 : ¬ (0 ≤ n ∧ n < (C : Int))) :
    Calls Tryl.prog 28 #[.pointer (some ⟨cb, 0, none⟩), .agg #[.string nm, .int .i64 fa, .int .i64 fl, .slice cao C ccap], .agg #[.int .i64 14, .int .i64 n]] w (InsE f i (some 11) w) := by
  have hcb := World.block_lt_of_cell? _ _ c5
  simp only at hcb
  rcases (show n < 0 ∨ (0 ≤ n ∧ (C : Int) ≤ n) by omega) with h | ⟨h, h'⟩
  · have d0 : decide (0 ≤ n) = false := by simp; omega
    clear h1
    go_enter Tryl.func28, Tryl.ntmps28
    go_wp2_with (first | (go_at_call 40; (with_reducible refine (name_any _ _).mono ?_); rintro e w' ⟨⟨s, rfl, hs⟩, hb⟩; have hs' : s.toList.isEmpty = false := hs; clear hs; have k0 := cell_later hb (cell_al (cell_al c0 _) _); have k5 := cell_later hb (cell_al (cell_al c5 _) _); have k6 := cell_later hb (cell_al (cell_al c6 _) _); obtain ⟨m0, m1, m2, m3, x0, x1⟩ := boxes hb) | (go_at_call 41; (with_reducible refine (hasN_any _ _).mono ?_); rintro e w' ⟨rfl, rfl⟩) | (go_at_call 26; (with_reducible refine (need_no cb f i _ _ (by assumption) (by assumption)).mono ?_); rintro e w' ⟨rfl, q, rfl⟩) | (go_at_call 26; (with_reducible refine (need_yes _ _ _).mono ?_); rintro e w' ⟨rfl, rfl⟩))
    exact ⟨rfl, rfl, ((((Kp.refl _ _).alloc _).alloc _).trans (Kp.of_new hb) (fun _ _ h => h)).drewN _⟩
  · have d0 : decide (0 ≤ n) = true := by simp; omega
    have d1 : decide (n < (C : Int)) = false := by simp; omega
    clear h1
    go_enter Tryl.func28, Tryl.ntmps28
    go_wp2_with (first | (go_at_call 40; (with_reducible refine (name_any _ _).mono ?_); rintro e w' ⟨⟨s, rfl, hs⟩, hb⟩; have hs' : s.toList.isEmpty = false := hs; clear hs; have k0 := cell_later hb (cell_al (cell_al c0 _) _); have k5 := cell_later hb (cell_al (cell_al c5 _) _); have k6 := cell_later hb (cell_al (cell_al c6 _) _); obtain ⟨m0, m1, m2, m3, x0, x1⟩ := boxes hb) | (go_at_call 41; (with_reducible refine (hasN_any _ _).mono ?_); rintro e w' ⟨rfl, rfl⟩) | (go_at_call 26; (with_reducible refine (need_no cb f i _ _ (by assumption) (by assumption)).mono ?_); rintro e w' ⟨rfl, q, rfl⟩) | (go_at_call 26; (with_reducible refine (need_yes _ _ _).mono ?_); rintro e w' ⟨rfl, rfl⟩))
    exact ⟨rfl, rfl, ((((Kp.refl _ _).alloc _).alloc _).trans (Kp.of_new hb) (fun _ _ h => h)).drewN _⟩

include c0 c5 c6 in
set_option maxHeartbeats 2000000 in
theorem ins_zero_yes (h0 : 0 ≤ n) (h1 : n < (C : Int)) :
    Calls Tryl.prog 28 #[.pointer (some ⟨cb, 0, none⟩), .agg #[.string nm, .int .i64 fa, .int .i64 fl, .slice cao C ccap], .agg #[.int .i64 15, .int .i64 n]] w (InsE f i none w) := by
  have hcb := World.block_lt_of_cell? _ _ c5
  simp only at hcb
  have d0 : decide (0 ≤ n) = true := by simp; omega
  have d1 : decide (n < (C : Int)) = true := by simp; omega
  go_enter Tryl.func28, Tryl.ntmps28
  go_wp2_with (first | (go_at_call 40; (with_reducible refine (name_any _ _).mono ?_); rintro e w' ⟨⟨s, rfl, hs⟩, hb⟩; have hs' : s.toList.isEmpty = false := hs; clear hs; have k0 := cell_later hb (cell_al (cell_al c0 _) _); have k5 := cell_later hb (cell_al (cell_al c5 _) _); have k6 := cell_later hb (cell_al (cell_al c6 _) _); obtain ⟨m0, m1, m2, m3, x0, x1⟩ := boxes hb) | (go_at_call 41; (with_reducible refine (hasN_any _ _).mono ?_); rintro e w' ⟨rfl, rfl⟩) | (go_at_call 26; (with_reducible refine (need_no cb f i _ _ (by assumption) (by assumption)).mono ?_); rintro e w' ⟨rfl, q, rfl⟩) | (go_at_call 26; (with_reducible refine (need_yes _ _ _).mono ?_); rintro e w' ⟨rfl, rfl⟩))
  go_end0
  exact ⟨rfl, (((Kp.refl _ _).alloc _).alloc _).trans (Kp.of_new hb) (fun _ _ h => h)⟩

include c0 c5 c6 in
set_option maxHeartbeats 2000000 in
theorem ins_zero_no (h1 : ¬ (0 ≤ n ∧ n < (C : Int))) :
    Calls Tryl.prog 28 #[.pointer (some ⟨cb, 0, none⟩), .agg #[.string nm, .int .i64 fa, .int .i64 fl, .slice cao C ccap], .agg #[.int .i64 15, .int .i64 n]] w (InsE f i (some 11) w) := by
  have hcb := World.block_lt_of_cell? _ _ c5
  simp only at hcb
  rcases (show n < 0 ∨ (0 ≤ n ∧ (C : Int) ≤ n) by omega) with h | ⟨h, h'⟩
  · have d0 : decide (0 ≤ n) = false := by simp; omega
    clear h1
    go_enter Tryl.func28, Tryl.ntmps28
    go_wp2_with (first | (go_at_call 40; (with_reducible refine (name_any _ _).mono ?_); rintro e w' ⟨⟨s, rfl, hs⟩, hb⟩; have hs' : s.toList.isEmpty = false := hs; clear hs; have k0 := cell_later hb (cell_al (cell_al c0 _) _); have k5 := cell_later hb (cell_al (cell_al c5 _) _); have k6 := cell_later hb (cell_al (cell_al c6 _) _); obtain ⟨m0, m1, m2, m3, x0, x1⟩ := boxes hb) | (go_at_call 41; (with_reducible refine (hasN_any _ _).mono ?_); rintro e w' ⟨rfl, rfl⟩) | (go_at_call 26; (with_reducible refine (need_no cb f i _ _ (by assumption) (by assumption)).mono ?_); rintro e w' ⟨rfl, q, rfl⟩) | (go_at_call 26; (with_reducible refine (need_yes _ _ _).mono ?_); rintro e w' ⟨rfl, rfl⟩))
    exact ⟨rfl, rfl, ((((Kp.refl _ _).alloc _).alloc _).trans (Kp.of_new hb) (fun _ _ h => h)).drewN _⟩
  · have d0 : decide (0 ≤ n) = true := by simp; omega
    have d1 : decide (n < (C : Int)) = false := by simp; omega
    clear h1
    go_enter Tryl.func28, Tryl.ntmps28
    go_wp2_with (first | (go_at_call 40; (with_reducible refine (name_any _ _).mono ?_); rintro e w' ⟨⟨s, rfl, hs⟩, hb⟩; have hs' : s.toList.isEmpty = false := hs; clear hs; have k0 := cell_later hb (cell_al (cell_al c0 _) _); have k5 := cell_later hb (cell_al (cell_al c5 _) _); have k6 := cell_later hb (cell_al (cell_al c6 _) _); obtain ⟨m0, m1, m2, m3, x0, x1⟩ := boxes hb) | (go_at_call 41; (with_reducible refine (hasN_any _ _).mono ?_); rintro e w' ⟨rfl, rfl⟩) | (go_at_call 26; (with_reducible refine (need_no cb f i _ _ (by assumption) (by assumption)).mono ?_); rintro e w' ⟨rfl, q, rfl⟩) | (go_at_call 26; (with_reducible refine (need_yes _ _ _).mono ?_); rintro e w' ⟨rfl, rfl⟩))
    exact ⟨rfl, rfl, ((((Kp.refl _ _).alloc _).alloc _).trans (Kp.of_new hb) (fun _ _ h => h)).drewN _⟩

include c0 c5 c6 in
set_option maxRecDepth 100000 in
set_option maxHeartbeats 2000000 in
theorem ins_spawn_yes (h0 : 0 ≤ n) (h1 : n < (L : Int)) :
    Calls Tryl.prog 28 #[.pointer (some ⟨cb, 0, none⟩), .agg #[.string nm, .int .i64 fa, .int .i64 fl, .slice cao C ccap], .agg #[.int .i64 16, .int .i64 n]] w (InsE f i none w) := by
  have hcb := World.block_lt_of_cell? _ _ c5
  simp only at hcb
  have d0 : decide (0 ≤ n) = true := by simp; omega
  have d1 : decide (n < (L : Int)) = true := by simp; omega
  go_enter Tryl.func28, Tryl.ntmps28
  go_wp2_with (first | (go_at_call 40; (with_reducible refine (name_any _ _).mono ?_); rintro e w' ⟨⟨s, rfl, hs⟩, hb⟩; have hs' : s.toList.isEmpty = false := hs; clear hs; have k0 := cell_later hb (cell_al (cell_al c0 _) _); have k5 := cell_later hb (cell_al (cell_al c5 _) _); have k6 := cell_later hb (cell_al (cell_al c6 _) _); obtain ⟨m0, m1, m2, m3, x0, x1⟩ := boxes hb) | (go_at_call 41; (with_reducible refine (hasN_any _ _).mono ?_); rintro e w' ⟨rfl, rfl⟩) | (go_at_call 26; (with_reducible refine (need_no cb f i _ _ (by assumption) (by assumption)).mono ?_); rintro e w' ⟨rfl, q, rfl⟩) | (go_at_call 26; (with_reducible refine (need_yes _ _ _).mono ?_); rintro e w' ⟨rfl, rfl⟩))
  refine wp_quiet_tail 15 (by kernel_rfl) (by kernel_rfl) ?_
  simp only [List.take_succ_cons, List.take_zero, List.drop_succ_cons, List.drop_zero]
  repeat (go_big_quiet_step (fail))
  refine wpQuiet_nil ?_
  go_wp2_with (first | (go_at_call 40; (with_reducible refine (name_any _ _).mono ?_); rintro e w' ⟨⟨s, rfl, hs⟩, hb⟩; have hs' : s.toList.isEmpty = false := hs; clear hs; have k0 := cell_later hb (cell_al (cell_al c0 _) _); have k5 := cell_later hb (cell_al (cell_al c5 _) _); have k6 := cell_later hb (cell_al (cell_al c6 _) _); obtain ⟨m0, m1, m2, m3, x0, x1⟩ := boxes hb) | (go_at_call 41; (with_reducible refine (hasN_any _ _).mono ?_); rintro e w' ⟨rfl, rfl⟩) | (go_at_call 26; (with_reducible refine (need_no cb f i _ _ (by simpa using k5) (by simpa using k6)).mono ?_); rintro e w' ⟨rfl, q, rfl⟩) | (go_at_call 26; (with_reducible refine (need_yes _ _ _).mono ?_); rintro e w' ⟨rfl, rfl⟩))
  go_end0
  exact ⟨rfl, ((((Kp.refl _ _).alloc _).alloc _).trans (Kp.of_new hb) (fun _ _ h => h)).drew⟩

include c0 c5 c6 in
set_option maxRecDepth 100000 in
set_option maxHeartbeats 2000000 in
theorem ins_spawn_no (h1 : ¬ (0 ≤ n ∧ n < (L : Int))) :
    Calls Tryl.prog 28 #[.pointer (some ⟨cb, 0, none⟩), .agg #[.string nm, .int .i64 fa, .int .i64 fl, .slice cao C ccap], .agg #[.int .i64 16, .int .i64 n]] w (InsE f i (some 14) w) := by
  have hcb := World.block_lt_of_cell? _ _ c5
  simp only at hcb
  rcases (show n < 0 ∨ (0 ≤ n ∧ (L : Int) ≤ n) by omega) with h | ⟨h, h'⟩
  · have d0 : decide (0 ≤ n) = false := by simp; omega
    clear h1
    go_enter Tryl.func28, Tryl.ntmps28
    go_wp2_with (first | (go_at_call 40; (with_reducible refine (name_any _ _).mono ?_); rintro e w' ⟨⟨s, rfl, hs⟩, hb⟩; have hs' : s.toList.isEmpty = false := hs; clear hs; have k0 := cell_later hb (cell_al (cell_al c0 _) _); have k5 := cell_later hb (cell_al (cell_al c5 _) _); have k6 := cell_later hb (cell_al (cell_al c6 _) _); obtain ⟨m0, m1, m2, m3, x0, x1⟩ := boxes hb) | (go_at_call 41; (with_reducible refine (hasN_any _ _).mono ?_); rintro e w' ⟨rfl, rfl⟩) | (go_at_call 26; (with_reducible refine (need_no cb f i _ _ (by assumption) (by assumption)).mono ?_); rintro e w' ⟨rfl, q, rfl⟩) | (go_at_call 26; (with_reducible refine (need_yes _ _ _).mono ?_); rintro e w' ⟨rfl, rfl⟩))
    refine wp_quiet_tail 15 (by kernel_rfl) (by kernel_rfl) ?_
    simp only [List.take_succ_cons, List.take_zero, List.drop_succ_cons, List.drop_zero]
    repeat (go_big_quiet_step (fail))
    refine wpQuiet_nil ?_
    go_wp2_with (first | (go_at_call 40; (with_reducible refine (name_any _ _).mono ?_); rintro e w' ⟨⟨s, rfl, hs⟩, hb⟩; have hs' : s.toList.isEmpty = false := hs; clear hs; have k0 := cell_later hb (cell_al (cell_al c0 _) _); have k5 := cell_later hb (cell_al (cell_al c5 _) _); have k6 := cell_later hb (cell_al (cell_al c6 _) _); obtain ⟨m0, m1, m2, m3, x0, x1⟩ := boxes hb) | (go_at_call 41; (with_reducible refine (hasN_any _ _).mono ?_); rintro e w' ⟨rfl, rfl⟩) | (go_at_call 26; (with_reducible refine (need_no cb f i _ _ (by simpa using k5) (by simpa using k6)).mono ?_); rintro e w' ⟨rfl, q, rfl⟩) | (go_at_call 26; (with_reducible refine (need_yes _ _ _).mono ?_); rintro e w' ⟨rfl, rfl⟩))
    exact ⟨rfl, rfl, ((((Kp.refl _ _).alloc _).alloc _).trans (Kp.of_new hb) (fun _ _ h => h)).drewN _⟩
  · have d0 : decide (0 ≤ n) = true := by simp; omega
    have d1 : decide (n < (L : Int)) = false := by simp; omega
    clear h1
    go_enter Tryl.func28, Tryl.ntmps28
    go_wp2_with (first | (go_at_call 40; (with_reducible refine (name_any _ _).mono ?_); rintro e w' ⟨⟨s, rfl, hs⟩, hb⟩; have hs' : s.toList.isEmpty = false := hs; clear hs; have k0 := cell_later hb (cell_al (cell_al c0 _) _); have k5 := cell_later hb (cell_al (cell_al c5 _) _); have k6 := cell_later hb (cell_al (cell_al c6 _) _); obtain ⟨m0, m1, m2, m3, x0, x1⟩ := boxes hb) | (go_at_call 41; (with_reducible refine (hasN_any _ _).mono ?_); rintro e w' ⟨rfl, rfl⟩) | (go_at_call 26; (with_reducible refine (need_no cb f i _ _ (by assumption) (by assumption)).mono ?_); rintro e w' ⟨rfl, q, rfl⟩) | (go_at_call 26; (with_reducible refine (need_yes _ _ _).mono ?_); rintro e w' ⟨rfl, rfl⟩))
    refine wp_quiet_tail 15 (by kernel_rfl) (by kernel_rfl) ?_
    simp only [List.take_succ_cons, List.take_zero, List.drop_succ_cons, List.drop_zero]
    repeat (go_big_quiet_step (fail))
    refine wpQuiet_nil ?_
    go_wp2_with (first | (go_at_call 40; (with_reducible refine (name_any _ _).mono ?_); rintro e w' ⟨⟨s, rfl, hs⟩, hb⟩; have hs' : s.toList.isEmpty = false := hs; clear hs; have k0 := cell_later hb (cell_al (cell_al c0 _) _); have k5 := cell_later hb (cell_al (cell_al c5 _) _); have k6 := cell_later hb (cell_al (cell_al c6 _) _); obtain ⟨m0, m1, m2, m3, x0, x1⟩ := boxes hb) | (go_at_call 41; (with_reducible refine (hasN_any _ _).mono ?_); rintro e w' ⟨rfl, rfl⟩) | (go_at_call 26; (with_reducible refine (need_no cb f i _ _ (by simpa using k5) (by simpa using k6)).mono ?_); rintro e w' ⟨rfl, q, rfl⟩) | (go_at_call 26; (with_reducible refine (need_yes _ _ _).mono ?_); rintro e w' ⟨rfl, rfl⟩))
    exact ⟨rfl, rfl, ((((Kp.refl _ _).alloc _).alloc _).trans (Kp.of_new hb) (fun _ _ h => h)).drewN _⟩

include c0 c5 c6 in
theorem ins_any :
    Calls Tryl.prog 28 #[.pointer (some ⟨cb, 0, none⟩), .agg #[.string nm, .int .i64 fa, .int .i64 fl, .slice cao C ccap], .agg #[.int .i64 op, .int .i64 n]] w (InsE f i (insS L fl C op n) w) := by
  unfold insS
  by_cases h : isOp op = true
  rotate_left
  · rw [if_pos (fun hh => h hh.1)]
    exact ins_noOp cb C nm fa fl op n f i cao ccap w c5 c6 (by simpa using h)
  by_cases hn : hasN op = true ∨ n = 0
  rotate_left
  · rw [if_pos (fun hh => hn hh.2)]
    exact ins_noN cb L C nm fa fl op n f i fao cao fcap ccap w c0 c5 c6 h (by
      cases hh : hasN op with
      | false => rfl
      | true => exact absurd (Or.inl hh) hn) (fun hh => hn (Or.inr hh))
  rw [if_neg (fun hh => hh ⟨h, hn⟩)]
  by_cases h5 : op = 5
  · subst h5
    by_cases hb : 0 ≤ n ∧ n < fl
    · rw [if_neg (fun hh => hh.2 hb), if_neg (by omega), if_neg (by omega)]
      exact ins_load_yes cb L C nm fa fl n f i fao cao fcap ccap w c0 c5 c6 hb.1 hb.2
    · rw [if_pos ⟨Or.inl rfl, hb⟩]
      exact ins_load_no cb L C nm fa fl n f i fao cao fcap ccap w c0 c5 c6 hb
  by_cases h6 : op = 6
  · subst h6
    by_cases hb : 0 ≤ n ∧ n < fl
    · rw [if_neg (fun hh => hh.2 hb), if_neg (by omega), if_neg (by omega)]
      exact ins_store_yes cb L C nm fa fl n f i fao cao fcap ccap w c0 c5 c6 hb.1 hb.2
    · rw [if_pos ⟨Or.inr rfl, hb⟩]
      exact ins_store_no cb L C nm fa fl n f i fao cao fcap ccap w c0 c5 c6 hb
  rw [if_neg (by omega)]
  by_cases h14 : op = 14
  · subst h14
    by_cases hb : 0 ≤ n ∧ n < C
    · rw [if_neg (fun hh => hh.2 hb), if_neg (by omega)]
      exact ins_jump_yes cb L C nm fa fl n f i fao cao fcap ccap w c0 c5 c6 hb.1 hb.2
    · rw [if_pos ⟨Or.inl rfl, hb⟩]
      exact ins_jump_no cb L C nm fa fl n f i fao cao fcap ccap w c0 c5 c6 hb
  by_cases h15 : op = 15
  · subst h15
    by_cases hb : 0 ≤ n ∧ n < C
    · rw [if_neg (fun hh => hh.2 hb), if_neg (by omega)]
      exact ins_zero_yes cb L C nm fa fl n f i fao cao fcap ccap w c0 c5 c6 hb.1 hb.2
    · rw [if_pos ⟨Or.inr rfl, hb⟩]
      exact ins_zero_no cb L C nm fa fl n f i fao cao fcap ccap w c0 c5 c6 hb
  rw [if_neg (by omega)]
  by_cases h16 : op = 16
  · subst h16
    by_cases hb : 0 ≤ n ∧ n < L
    · rw [if_neg (fun hh => hh.2 hb)]
      exact ins_spawn_yes cb L C nm fa fl n f i fao cao fcap ccap w c0 c5 c6 hb.1 hb.2
    · rw [if_pos ⟨rfl, hb⟩]
      exact ins_spawn_no cb L C nm fa fl n f i fao cao fcap ccap w c0 c5 c6 hb
  rw [if_neg (by omega)]
  exact ins_plain cb L C nm fa fl op n f i fao cao fcap ccap w c0 c5 c6 h hn h5 h6 h14 h15 h16
end
end Go.Proofs.YtgjdlloiiedpmaaLiftDoor
