/- The reference's 'checkIns'. No condition. -/
import Derived.Test.YtgjdlloiiedpmaaLiftDoorRefA
namespace Go.Proofs.YtgjdlloiiedpmaaLiftDoor
open Go.RowKit

/-- What the three boxes hold behind a call that leaves old memory alone. -/
theorem boxes3 {w wx : World} {fv av : Value} {jm jf jt : Int} {nm : ByteArray} {fa fl op n : Int} {cv : Value} {t u v : Nat}
    (h : Kp No (((w.alloc (.cells #[fv, .int .i64 jm, av, .int .i64 jf, .int .i64 jt] t)).alloc (.cells #[.string nm, .int .i64 fa, .int .i64 fl, cv] u)).alloc (.cells #[.int .i64 op, .int .i64 n] v)) wx) :
    wx.cell? ⟨w.heap.size, 0, none⟩ = some fv ∧ wx.cell? ⟨w.heap.size + 1, 2, none⟩ = some (.int .i64 fl) ∧ wx.cell? ⟨w.heap.size + 1, 3, none⟩ = some cv ∧ wx.cell? ⟨w.heap.size + 1 + 1, 0, none⟩ = some (.int .i64 op) ∧ wx.cell? ⟨w.heap.size + 1 + 1, 1, none⟩ = some (.int .i64 n) := by
  have b1 := h.blk (blk_alloc (blk_alloc (blk_new w (.cells #[fv, .int .i64 jm, av, .int .i64 jf, .int .i64 jt] t) _ rfl) _) _) (fun x => x)
  have b2 := h.blk (blk_alloc (blk_new (w.alloc (.cells #[fv, .int .i64 jm, av, .int .i64 jf, .int .i64 jt] t)) (.cells #[.string nm, .int .i64 fa, .int .i64 fl, cv] u) (w.heap.size + 1) (by simp)) _) (fun x => x)
  have b3 := h.blk (blk_new ((w.alloc (.cells #[fv, .int .i64 jm, av, .int .i64 jf, .int .i64 jt] t)).alloc (.cells #[.string nm, .int .i64 fa, .int .i64 fl, cv] u)) (.cells #[.int .i64 op, .int .i64 n] v) (w.heap.size + 1 + 1) (by simp)) (fun x => x)
  exact ⟨cell_blk b1 0 rfl, cell_blk b2 2 rfl, cell_blk b2 3 rfl, cell_blk b3 0 rfl, cell_blk b3 1 rfl⟩

section
variable (ao cao : Option Addr) (L C cap ccap : Nat) (av : Value) (jm jf jt : Int) (nm : ByteArray) (fa fl : Int)

set_option maxHeartbeats 2000000 in
theorem rins_0 (op : Int) (n : Int) (hc : isOp op = false) (w : World) : Calls Tryl.prog 46 #[.agg #[.slice ao L cap, .int .i64 jm, av, .int .i64 jf, .int .i64 jt], .agg #[.string nm, .int .i64 fa, .int .i64 fl, .slice cao C ccap], .agg #[.int .i64 op, .int .i64 n]] w fun e w' => e = .returned (.int .i64 10) ∧ Kp No w w' := by
  go_enter Tryl.func46, Tryl.ntmps46
  go_wp2_with (first
    | (go_at_call 52; (with_reducible refine (rhasN_any _ _).mono ?_); rintro e w' ⟨rfl, rfl⟩)
    | (go_at_call 53; (with_reducible refine (rname1_any _ _).mono ?_); rintro e w' ⟨⟨s, rfl, hs⟩, hk⟩; rw [hc] at hs; have hs' : s.toList.isEmpty = true := hs; clear hs; obtain ⟨m0, m1, m2, m3, m4⟩ := boxes3 hk))
  go_ret
  exact ⟨rfl, (((kp_al w _).alloc _).alloc _).trans hk (fun _ _ x => x)⟩

set_option maxHeartbeats 2000000 in
theorem rins_1 (op : Int) (n : Int) (hc : isOp op = true) (hN : hasN op = false) (hn : n ≠ 0) (w : World) : Calls Tryl.prog 46 #[.agg #[.slice ao L cap, .int .i64 jm, av, .int .i64 jf, .int .i64 jt], .agg #[.string nm, .int .i64 fa, .int .i64 fl, .slice cao C ccap], .agg #[.int .i64 op, .int .i64 n]] w fun e w' => e = .returned (.int .i64 10) ∧ Kp No w w' := by
  have n0 : (n != 0) = true := by simp [hn]
  clear hn
  go_enter Tryl.func46, Tryl.ntmps46
  go_wp2_with (first
    | (go_at_call 52; (with_reducible refine (rhasN_any _ _).mono ?_); rintro e w' ⟨rfl, rfl⟩)
    | (go_at_call 53; (with_reducible refine (rname1_any _ _).mono ?_); rintro e w' ⟨⟨s, rfl, hs⟩, hk⟩; rw [hc] at hs; have hs' : s.toList.isEmpty = false := hs; clear hs; obtain ⟨m0, m1, m2, m3, m4⟩ := boxes3 hk))
  go_ret
  exact ⟨rfl, (((kp_al w _).alloc _).alloc _).trans hk (fun _ _ x => x)⟩

set_option maxHeartbeats 2000000 in
theorem rins_2 (op : Int) (hc : isOp op = true) (hN : hasN op = false) (h5 : op ≠ 5) (h6 : op ≠ 6) (h14 : op ≠ 14) (h15 : op ≠ 15) (h16 : op ≠ 16) (w : World) : Calls Tryl.prog 46 #[.agg #[.slice ao L cap, .int .i64 jm, av, .int .i64 jf, .int .i64 jt], .agg #[.string nm, .int .i64 fa, .int .i64 fl, .slice cao C ccap], .agg #[.int .i64 op, .int .i64 0]] w fun e w' => e = .returned (.int .i64 0) ∧ Kp No w w' := by
  have q5 : (op == 5) = false := by simp; omega
  have q6 : (op == 6) = false := by simp; omega
  have q14 : (op == 14) = false := by simp; omega
  have q15 : (op == 15) = false := by simp; omega
  have q16 : (op == 16) = false := by simp; omega
  clear h5 h6 h14 h15 h16
  go_enter Tryl.func46, Tryl.ntmps46
  go_wp2_with (first
    | (go_at_call 52; (with_reducible refine (rhasN_any _ _).mono ?_); rintro e w' ⟨rfl, rfl⟩)
    | (go_at_call 53; (with_reducible refine (rname1_any _ _).mono ?_); rintro e w' ⟨⟨s, rfl, hs⟩, hk⟩; rw [hc] at hs; have hs' : s.toList.isEmpty = false := hs; clear hs; obtain ⟨m0, m1, m2, m3, m4⟩ := boxes3 hk))
  go_ret
  exact ⟨rfl, (((kp_al w _).alloc _).alloc _).trans hk (fun _ _ x => x)⟩

set_option maxHeartbeats 2000000 in
theorem rins_3 (n : Int)  (w : World) : Calls Tryl.prog 46 #[.agg #[.slice ao L cap, .int .i64 jm, av, .int .i64 jf, .int .i64 jt], .agg #[.string nm, .int .i64 fa, .int .i64 fl, .slice cao C ccap], .agg #[.int .i64 1, .int .i64 n]] w fun e w' => e = .returned (.int .i64 0) ∧ Kp No w w' := by
  have hc : isOp 1 = true := rfl
  have hN : hasN 1 = true := rfl
  go_enter Tryl.func46, Tryl.ntmps46
  go_wp2_with (first
    | (go_at_call 52; (with_reducible refine (rhasN_any _ _).mono ?_); rintro e w' ⟨rfl, rfl⟩)
    | (go_at_call 53; (with_reducible refine (rname1_any _ _).mono ?_); rintro e w' ⟨⟨s, rfl, hs⟩, hk⟩; rw [hc] at hs; have hs' : s.toList.isEmpty = false := hs; clear hs; obtain ⟨m0, m1, m2, m3, m4⟩ := boxes3 hk))
  go_ret
  exact ⟨rfl, (((kp_al w _).alloc _).alloc _).trans hk (fun _ _ x => x)⟩

set_option maxHeartbeats 2000000 in
theorem rins_4 (n : Int) (hn : n < 0) (w : World) : Calls Tryl.prog 46 #[.agg #[.slice ao L cap, .int .i64 jm, av, .int .i64 jf, .int .i64 jt], .agg #[.string nm, .int .i64 fa, .int .i64 fl, .slice cao C ccap], .agg #[.int .i64 5, .int .i64 n]] w fun e w' => e = .returned (.int .i64 13) ∧ Kp No w w' := by
  have hc : isOp 5 = true := rfl
  have hN : hasN 5 = true := rfl
  have a1 : decide (n < 0) = true := decide_eq_true (by omega)
  clear hn
  go_enter Tryl.func46, Tryl.ntmps46
  go_wp2_with (first
    | (go_at_call 52; (with_reducible refine (rhasN_any _ _).mono ?_); rintro e w' ⟨rfl, rfl⟩)
    | (go_at_call 53; (with_reducible refine (rname1_any _ _).mono ?_); rintro e w' ⟨⟨s, rfl, hs⟩, hk⟩; rw [hc] at hs; have hs' : s.toList.isEmpty = false := hs; clear hs; obtain ⟨m0, m1, m2, m3, m4⟩ := boxes3 hk))
  go_ret
  exact ⟨rfl, (((kp_al w _).alloc _).alloc _).trans hk (fun _ _ x => x)⟩

set_option maxHeartbeats 2000000 in
theorem rins_5 (n : Int) (hn : 0 ≤ n ∧ fl ≤ n) (w : World) : Calls Tryl.prog 46 #[.agg #[.slice ao L cap, .int .i64 jm, av, .int .i64 jf, .int .i64 jt], .agg #[.string nm, .int .i64 fa, .int .i64 fl, .slice cao C ccap], .agg #[.int .i64 5, .int .i64 n]] w fun e w' => e = .returned (.int .i64 13) ∧ Kp No w w' := by
  have hc : isOp 5 = true := rfl
  have hN : hasN 5 = true := rfl
  have a1 : decide (n < 0) = false := decide_eq_false (by omega)
  have a2 : decide (fl ≤ n) = true := decide_eq_true (by omega)
  clear hn
  go_enter Tryl.func46, Tryl.ntmps46
  go_wp2_with (first
    | (go_at_call 52; (with_reducible refine (rhasN_any _ _).mono ?_); rintro e w' ⟨rfl, rfl⟩)
    | (go_at_call 53; (with_reducible refine (rname1_any _ _).mono ?_); rintro e w' ⟨⟨s, rfl, hs⟩, hk⟩; rw [hc] at hs; have hs' : s.toList.isEmpty = false := hs; clear hs; obtain ⟨m0, m1, m2, m3, m4⟩ := boxes3 hk))
  go_ret
  exact ⟨rfl, (((kp_al w _).alloc _).alloc _).trans hk (fun _ _ x => x)⟩

set_option maxHeartbeats 2000000 in
theorem rins_6 (n : Int) (hn : 0 ≤ n ∧ n < fl) (w : World) : Calls Tryl.prog 46 #[.agg #[.slice ao L cap, .int .i64 jm, av, .int .i64 jf, .int .i64 jt], .agg #[.string nm, .int .i64 fa, .int .i64 fl, .slice cao C ccap], .agg #[.int .i64 5, .int .i64 n]] w fun e w' => e = .returned (.int .i64 0) ∧ Kp No w w' := by
  have hc : isOp 5 = true := rfl
  have hN : hasN 5 = true := rfl
  have a1 : decide (n < 0) = false := decide_eq_false (by omega)
  have a2 : decide (fl ≤ n) = false := decide_eq_false (by omega)
  clear hn
  go_enter Tryl.func46, Tryl.ntmps46
  go_wp2_with (first
    | (go_at_call 52; (with_reducible refine (rhasN_any _ _).mono ?_); rintro e w' ⟨rfl, rfl⟩)
    | (go_at_call 53; (with_reducible refine (rname1_any _ _).mono ?_); rintro e w' ⟨⟨s, rfl, hs⟩, hk⟩; rw [hc] at hs; have hs' : s.toList.isEmpty = false := hs; clear hs; obtain ⟨m0, m1, m2, m3, m4⟩ := boxes3 hk))
  go_ret
  exact ⟨rfl, (((kp_al w _).alloc _).alloc _).trans hk (fun _ _ x => x)⟩

set_option maxHeartbeats 2000000 in
theorem rins_7 (n : Int) (hn : n < 0) (w : World) : Calls Tryl.prog 46 #[.agg #[.slice ao L cap, .int .i64 jm, av, .int .i64 jf, .int .i64 jt], .agg #[.string nm, .int .i64 fa, .int .i64 fl, .slice cao C ccap], .agg #[.int .i64 6, .int .i64 n]] w fun e w' => e = .returned (.int .i64 13) ∧ Kp No w w' := by
  have hc : isOp 6 = true := rfl
  have hN : hasN 6 = true := rfl
  have a1 : decide (n < 0) = true := decide_eq_true (by omega)
  clear hn
  go_enter Tryl.func46, Tryl.ntmps46
  go_wp2_with (first
    | (go_at_call 52; (with_reducible refine (rhasN_any _ _).mono ?_); rintro e w' ⟨rfl, rfl⟩)
    | (go_at_call 53; (with_reducible refine (rname1_any _ _).mono ?_); rintro e w' ⟨⟨s, rfl, hs⟩, hk⟩; rw [hc] at hs; have hs' : s.toList.isEmpty = false := hs; clear hs; obtain ⟨m0, m1, m2, m3, m4⟩ := boxes3 hk))
  go_ret
  exact ⟨rfl, (((kp_al w _).alloc _).alloc _).trans hk (fun _ _ x => x)⟩

set_option maxHeartbeats 2000000 in
theorem rins_8 (n : Int) (hn : 0 ≤ n ∧ fl ≤ n) (w : World) : Calls Tryl.prog 46 #[.agg #[.slice ao L cap, .int .i64 jm, av, .int .i64 jf, .int .i64 jt], .agg #[.string nm, .int .i64 fa, .int .i64 fl, .slice cao C ccap], .agg #[.int .i64 6, .int .i64 n]] w fun e w' => e = .returned (.int .i64 13) ∧ Kp No w w' := by
  have hc : isOp 6 = true := rfl
  have hN : hasN 6 = true := rfl
  have a1 : decide (n < 0) = false := decide_eq_false (by omega)
  have a2 : decide (fl ≤ n) = true := decide_eq_true (by omega)
  clear hn
  go_enter Tryl.func46, Tryl.ntmps46
  go_wp2_with (first
    | (go_at_call 52; (with_reducible refine (rhasN_any _ _).mono ?_); rintro e w' ⟨rfl, rfl⟩)
    | (go_at_call 53; (with_reducible refine (rname1_any _ _).mono ?_); rintro e w' ⟨⟨s, rfl, hs⟩, hk⟩; rw [hc] at hs; have hs' : s.toList.isEmpty = false := hs; clear hs; obtain ⟨m0, m1, m2, m3, m4⟩ := boxes3 hk))
  go_ret
  exact ⟨rfl, (((kp_al w _).alloc _).alloc _).trans hk (fun _ _ x => x)⟩

set_option maxHeartbeats 2000000 in
theorem rins_9 (n : Int) (hn : 0 ≤ n ∧ n < fl) (w : World) : Calls Tryl.prog 46 #[.agg #[.slice ao L cap, .int .i64 jm, av, .int .i64 jf, .int .i64 jt], .agg #[.string nm, .int .i64 fa, .int .i64 fl, .slice cao C ccap], .agg #[.int .i64 6, .int .i64 n]] w fun e w' => e = .returned (.int .i64 0) ∧ Kp No w w' := by
  have hc : isOp 6 = true := rfl
  have hN : hasN 6 = true := rfl
  have a1 : decide (n < 0) = false := decide_eq_false (by omega)
  have a2 : decide (fl ≤ n) = false := decide_eq_false (by omega)
  clear hn
  go_enter Tryl.func46, Tryl.ntmps46
  go_wp2_with (first
    | (go_at_call 52; (with_reducible refine (rhasN_any _ _).mono ?_); rintro e w' ⟨rfl, rfl⟩)
    | (go_at_call 53; (with_reducible refine (rname1_any _ _).mono ?_); rintro e w' ⟨⟨s, rfl, hs⟩, hk⟩; rw [hc] at hs; have hs' : s.toList.isEmpty = false := hs; clear hs; obtain ⟨m0, m1, m2, m3, m4⟩ := boxes3 hk))
  go_ret
  exact ⟨rfl, (((kp_al w _).alloc _).alloc _).trans hk (fun _ _ x => x)⟩

set_option maxHeartbeats 2000000 in
theorem rins_10 (n : Int) (hn : n < 0) (w : World) : Calls Tryl.prog 46 #[.agg #[.slice ao L cap, .int .i64 jm, av, .int .i64 jf, .int .i64 jt], .agg #[.string nm, .int .i64 fa, .int .i64 fl, .slice cao C ccap], .agg #[.int .i64 14, .int .i64 n]] w fun e w' => e = .returned (.int .i64 11) ∧ Kp No w w' := by
  have hc : isOp 14 = true := rfl
  have hN : hasN 14 = true := rfl
  have a1 : decide (n < 0) = true := decide_eq_true (by omega)
  clear hn
  go_enter Tryl.func46, Tryl.ntmps46
  go_wp2_with (first
    | (go_at_call 52; (with_reducible refine (rhasN_any _ _).mono ?_); rintro e w' ⟨rfl, rfl⟩)
    | (go_at_call 53; (with_reducible refine (rname1_any _ _).mono ?_); rintro e w' ⟨⟨s, rfl, hs⟩, hk⟩; rw [hc] at hs; have hs' : s.toList.isEmpty = false := hs; clear hs; obtain ⟨m0, m1, m2, m3, m4⟩ := boxes3 hk))
  go_ret
  exact ⟨rfl, (((kp_al w _).alloc _).alloc _).trans hk (fun _ _ x => x)⟩

set_option maxHeartbeats 2000000 in
theorem rins_11 (n : Int) (hn : 0 ≤ n ∧ (C : Int) ≤ n) (w : World) : Calls Tryl.prog 46 #[.agg #[.slice ao L cap, .int .i64 jm, av, .int .i64 jf, .int .i64 jt], .agg #[.string nm, .int .i64 fa, .int .i64 fl, .slice cao C ccap], .agg #[.int .i64 14, .int .i64 n]] w fun e w' => e = .returned (.int .i64 11) ∧ Kp No w w' := by
  have hc : isOp 14 = true := rfl
  have hN : hasN 14 = true := rfl
  have a1 : decide (n < 0) = false := decide_eq_false (by omega)
  have a2 : decide ((C : Int) ≤ n) = true := decide_eq_true (by omega)
  clear hn
  go_enter Tryl.func46, Tryl.ntmps46
  go_wp2_with (first
    | (go_at_call 52; (with_reducible refine (rhasN_any _ _).mono ?_); rintro e w' ⟨rfl, rfl⟩)
    | (go_at_call 53; (with_reducible refine (rname1_any _ _).mono ?_); rintro e w' ⟨⟨s, rfl, hs⟩, hk⟩; rw [hc] at hs; have hs' : s.toList.isEmpty = false := hs; clear hs; obtain ⟨m0, m1, m2, m3, m4⟩ := boxes3 hk))
  go_ret
  exact ⟨rfl, (((kp_al w _).alloc _).alloc _).trans hk (fun _ _ x => x)⟩

set_option maxHeartbeats 2000000 in
theorem rins_12 (n : Int) (hn : 0 ≤ n ∧ n < (C : Int)) (w : World) : Calls Tryl.prog 46 #[.agg #[.slice ao L cap, .int .i64 jm, av, .int .i64 jf, .int .i64 jt], .agg #[.string nm, .int .i64 fa, .int .i64 fl, .slice cao C ccap], .agg #[.int .i64 14, .int .i64 n]] w fun e w' => e = .returned (.int .i64 0) ∧ Kp No w w' := by
  have hc : isOp 14 = true := rfl
  have hN : hasN 14 = true := rfl
  have a1 : decide (n < 0) = false := decide_eq_false (by omega)
  have a2 : decide ((C : Int) ≤ n) = false := decide_eq_false (by omega)
  clear hn
  go_enter Tryl.func46, Tryl.ntmps46
  go_wp2_with (first
    | (go_at_call 52; (with_reducible refine (rhasN_any _ _).mono ?_); rintro e w' ⟨rfl, rfl⟩)
    | (go_at_call 53; (with_reducible refine (rname1_any _ _).mono ?_); rintro e w' ⟨⟨s, rfl, hs⟩, hk⟩; rw [hc] at hs; have hs' : s.toList.isEmpty = false := hs; clear hs; obtain ⟨m0, m1, m2, m3, m4⟩ := boxes3 hk))
  go_ret
  exact ⟨rfl, (((kp_al w _).alloc _).alloc _).trans hk (fun _ _ x => x)⟩

set_option maxHeartbeats 2000000 in
theorem rins_13 (n : Int) (hn : n < 0) (w : World) : Calls Tryl.prog 46 #[.agg #[.slice ao L cap, .int .i64 jm, av, .int .i64 jf, .int .i64 jt], .agg #[.string nm, .int .i64 fa, .int .i64 fl, .slice cao C ccap], .agg #[.int .i64 15, .int .i64 n]] w fun e w' => e = .returned (.int .i64 11) ∧ Kp No w w' := by
  have hc : isOp 15 = true := rfl
  have hN : hasN 15 = true := rfl
  have a1 : decide (n < 0) = true := decide_eq_true (by omega)
  clear hn
  go_enter Tryl.func46, Tryl.ntmps46
  go_wp2_with (first
    | (go_at_call 52; (with_reducible refine (rhasN_any _ _).mono ?_); rintro e w' ⟨rfl, rfl⟩)
    | (go_at_call 53; (with_reducible refine (rname1_any _ _).mono ?_); rintro e w' ⟨⟨s, rfl, hs⟩, hk⟩; rw [hc] at hs; have hs' : s.toList.isEmpty = false := hs; clear hs; obtain ⟨m0, m1, m2, m3, m4⟩ := boxes3 hk))
  go_ret
  exact ⟨rfl, (((kp_al w _).alloc _).alloc _).trans hk (fun _ _ x => x)⟩

set_option maxHeartbeats 2000000 in
theorem rins_14 (n : Int) (hn : 0 ≤ n ∧ (C : Int) ≤ n) (w : World) : Calls Tryl.prog 46 #[.agg #[.slice ao L cap, .int .i64 jm, av, .int .i64 jf, .int .i64 jt], .agg #[.string nm, .int .i64 fa, .int .i64 fl, .slice cao C ccap], .agg #[.int .i64 15, .int .i64 n]] w fun e w' => e = .returned (.int .i64 11) ∧ Kp No w w' := by
  have hc : isOp 15 = true := rfl
  have hN : hasN 15 = true := rfl
  have a1 : decide (n < 0) = false := decide_eq_false (by omega)
  have a2 : decide ((C : Int) ≤ n) = true := decide_eq_true (by omega)
  clear hn
  go_enter Tryl.func46, Tryl.ntmps46
  go_wp2_with (first
    | (go_at_call 52; (with_reducible refine (rhasN_any _ _).mono ?_); rintro e w' ⟨rfl, rfl⟩)
    | (go_at_call 53; (with_reducible refine (rname1_any _ _).mono ?_); rintro e w' ⟨⟨s, rfl, hs⟩, hk⟩; rw [hc] at hs; have hs' : s.toList.isEmpty = false := hs; clear hs; obtain ⟨m0, m1, m2, m3, m4⟩ := boxes3 hk))
  go_ret
  exact ⟨rfl, (((kp_al w _).alloc _).alloc _).trans hk (fun _ _ x => x)⟩

set_option maxHeartbeats 2000000 in
theorem rins_15 (n : Int) (hn : 0 ≤ n ∧ n < (C : Int)) (w : World) : Calls Tryl.prog 46 #[.agg #[.slice ao L cap, .int .i64 jm, av, .int .i64 jf, .int .i64 jt], .agg #[.string nm, .int .i64 fa, .int .i64 fl, .slice cao C ccap], .agg #[.int .i64 15, .int .i64 n]] w fun e w' => e = .returned (.int .i64 0) ∧ Kp No w w' := by
  have hc : isOp 15 = true := rfl
  have hN : hasN 15 = true := rfl
  have a1 : decide (n < 0) = false := decide_eq_false (by omega)
  have a2 : decide ((C : Int) ≤ n) = false := decide_eq_false (by omega)
  clear hn
  go_enter Tryl.func46, Tryl.ntmps46
  go_wp2_with (first
    | (go_at_call 52; (with_reducible refine (rhasN_any _ _).mono ?_); rintro e w' ⟨rfl, rfl⟩)
    | (go_at_call 53; (with_reducible refine (rname1_any _ _).mono ?_); rintro e w' ⟨⟨s, rfl, hs⟩, hk⟩; rw [hc] at hs; have hs' : s.toList.isEmpty = false := hs; clear hs; obtain ⟨m0, m1, m2, m3, m4⟩ := boxes3 hk))
  go_ret
  exact ⟨rfl, (((kp_al w _).alloc _).alloc _).trans hk (fun _ _ x => x)⟩

set_option maxHeartbeats 2000000 in
theorem rins_16 (n : Int) (hn : n < 0) (w : World) : Calls Tryl.prog 46 #[.agg #[.slice ao L cap, .int .i64 jm, av, .int .i64 jf, .int .i64 jt], .agg #[.string nm, .int .i64 fa, .int .i64 fl, .slice cao C ccap], .agg #[.int .i64 16, .int .i64 n]] w fun e w' => e = .returned (.int .i64 14) ∧ Kp No w w' := by
  have hc : isOp 16 = true := rfl
  have hN : hasN 16 = true := rfl
  have a1 : decide (n < 0) = true := decide_eq_true (by omega)
  clear hn
  go_enter Tryl.func46, Tryl.ntmps46
  go_wp2_with (first
    | (go_at_call 52; (with_reducible refine (rhasN_any _ _).mono ?_); rintro e w' ⟨rfl, rfl⟩)
    | (go_at_call 53; (with_reducible refine (rname1_any _ _).mono ?_); rintro e w' ⟨⟨s, rfl, hs⟩, hk⟩; rw [hc] at hs; have hs' : s.toList.isEmpty = false := hs; clear hs; obtain ⟨m0, m1, m2, m3, m4⟩ := boxes3 hk))
  go_ret
  exact ⟨rfl, (((kp_al w _).alloc _).alloc _).trans hk (fun _ _ x => x)⟩

set_option maxHeartbeats 2000000 in
theorem rins_17 (n : Int) (hn : 0 ≤ n ∧ (L : Int) ≤ n) (w : World) : Calls Tryl.prog 46 #[.agg #[.slice ao L cap, .int .i64 jm, av, .int .i64 jf, .int .i64 jt], .agg #[.string nm, .int .i64 fa, .int .i64 fl, .slice cao C ccap], .agg #[.int .i64 16, .int .i64 n]] w fun e w' => e = .returned (.int .i64 14) ∧ Kp No w w' := by
  have hc : isOp 16 = true := rfl
  have hN : hasN 16 = true := rfl
  have a1 : decide (n < 0) = false := decide_eq_false (by omega)
  have a2 : decide ((L : Int) ≤ n) = true := decide_eq_true (by omega)
  clear hn
  go_enter Tryl.func46, Tryl.ntmps46
  go_wp2_with (first
    | (go_at_call 52; (with_reducible refine (rhasN_any _ _).mono ?_); rintro e w' ⟨rfl, rfl⟩)
    | (go_at_call 53; (with_reducible refine (rname1_any _ _).mono ?_); rintro e w' ⟨⟨s, rfl, hs⟩, hk⟩; rw [hc] at hs; have hs' : s.toList.isEmpty = false := hs; clear hs; obtain ⟨m0, m1, m2, m3, m4⟩ := boxes3 hk))
  go_ret
  exact ⟨rfl, (((kp_al w _).alloc _).alloc _).trans hk (fun _ _ x => x)⟩

set_option maxHeartbeats 2000000 in
theorem rins_18 (n : Int) (hn : 0 ≤ n ∧ n < (L : Int)) (w : World) : Calls Tryl.prog 46 #[.agg #[.slice ao L cap, .int .i64 jm, av, .int .i64 jf, .int .i64 jt], .agg #[.string nm, .int .i64 fa, .int .i64 fl, .slice cao C ccap], .agg #[.int .i64 16, .int .i64 n]] w fun e w' => e = .returned (.int .i64 0) ∧ Kp No w w' := by
  have hc : isOp 16 = true := rfl
  have hN : hasN 16 = true := rfl
  have a1 : decide (n < 0) = false := decide_eq_false (by omega)
  have a2 : decide ((L : Int) ≤ n) = false := decide_eq_false (by omega)
  clear hn
  go_enter Tryl.func46, Tryl.ntmps46
  go_wp2_with (first
    | (go_at_call 52; (with_reducible refine (rhasN_any _ _).mono ?_); rintro e w' ⟨rfl, rfl⟩)
    | (go_at_call 53; (with_reducible refine (rname1_any _ _).mono ?_); rintro e w' ⟨⟨s, rfl, hs⟩, hk⟩; rw [hc] at hs; have hs' : s.toList.isEmpty = false := hs; clear hs; obtain ⟨m0, m1, m2, m3, m4⟩ := boxes3 hk))
  go_ret
  exact ⟨rfl, (((kp_al w _).alloc _).alloc _).trans hk (fun _ _ x => x)⟩
end

theorem checkIns_any (ao cao : Option Addr) (L C cap ccap : Nat) (av : Value) (jm jf jt : Int) (nm : ByteArray) (fa fl op n : Int) (w : World) :
    Calls Tryl.prog 46 #[.agg #[.slice ao L cap, .int .i64 jm, av, .int .i64 jf, .int .i64 jt], .agg #[.string nm, .int .i64 fa, .int .i64 fl, .slice cao C ccap], .agg #[.int .i64 op, .int .i64 n]] w fun e w' => e = .returned (.int .i64 ((insS L fl C op n).getD 0)) ∧ Kp No w w' := by
  by_cases h1 : isOp op = true ∧ (hasN op = true ∨ n = 0)
  · obtain ⟨hc, hh⟩ := h1
    have hr : 1 ≤ op ∧ op ≤ 19 := by simpa [isOp] using hc
    have hd : insS L fl C op n = if (op = 5 ∨ op = 6) ∧ ¬ (0 ≤ n ∧ n < fl) then some 13 else if (op = 14 ∨ op = 15) ∧ ¬ (0 ≤ n ∧ n < C) then some 11 else if op = 16 ∧ ¬ (0 ≤ n ∧ n < L) then some 14 else none := by
      unfold insS; rw [if_neg (fun h => h ⟨hc, hh⟩)]
    rw [hd]
    clear hd
    by_cases hp : op ≠ 5 ∧ op ≠ 6 ∧ op ≠ 14 ∧ op ≠ 15 ∧ op ≠ 16
    · obtain ⟨h5, h6, h14, h15, h16⟩ := hp
      rw [if_neg (by omega), if_neg (by omega), if_neg (by omega)]
      cases hN : hasN op with
      | true =>
        have : op = 1 := by simp [hasN] at hN; omega
        subst this
        exact rins_3 ao cao L C cap ccap av jm jf jt nm fa fl n w
      | false =>
        have hn : n = 0 := by rcases hh with h | h
                              · rw [hN] at h; cases h
                              · exact h
        subst hn
        exact rins_2 ao cao L C cap ccap av jm jf jt nm fa fl op hc hN h5 h6 h14 h15 h16 w
    · rcases (show op = 5 ∨ op = 6 ∨ op = 14 ∨ op = 15 ∨ op = 16 by omega) with rfl | rfl | rfl | rfl | rfl
      · rcases (show n < 0 ∨ (0 ≤ n ∧ fl ≤ n) ∨ (0 ≤ n ∧ n < fl) by omega) with g | g | g
        · rw [if_pos (by omega)]; exact rins_4 ao cao L C cap ccap av jm jf jt nm fa fl n g w
        · rw [if_pos (by omega)]; exact rins_5 ao cao L C cap ccap av jm jf jt nm fa fl n g w
        · rw [if_neg (by omega), if_neg (by omega), if_neg (by omega)]; exact rins_6 ao cao L C cap ccap av jm jf jt nm fa fl n g w
      · rcases (show n < 0 ∨ (0 ≤ n ∧ fl ≤ n) ∨ (0 ≤ n ∧ n < fl) by omega) with g | g | g
        · rw [if_pos (by omega)]; exact rins_7 ao cao L C cap ccap av jm jf jt nm fa fl n g w
        · rw [if_pos (by omega)]; exact rins_8 ao cao L C cap ccap av jm jf jt nm fa fl n g w
        · rw [if_neg (by omega), if_neg (by omega), if_neg (by omega)]; exact rins_9 ao cao L C cap ccap av jm jf jt nm fa fl n g w
      · rcases (show n < 0 ∨ (0 ≤ n ∧ (C : Int) ≤ n) ∨ (0 ≤ n ∧ n < (C : Int)) by omega) with g | g | g
        · rw [if_neg (by omega), if_pos (by omega)]; exact rins_10 ao cao L C cap ccap av jm jf jt nm fa fl n g w
        · rw [if_neg (by omega), if_pos (by omega)]; exact rins_11 ao cao L C cap ccap av jm jf jt nm fa fl n g w
        · rw [if_neg (by omega), if_neg (by omega), if_neg (by omega)]; exact rins_12 ao cao L C cap ccap av jm jf jt nm fa fl n g w
      · rcases (show n < 0 ∨ (0 ≤ n ∧ (C : Int) ≤ n) ∨ (0 ≤ n ∧ n < (C : Int)) by omega) with g | g | g
        · rw [if_neg (by omega), if_pos (by omega)]; exact rins_13 ao cao L C cap ccap av jm jf jt nm fa fl n g w
        · rw [if_neg (by omega), if_pos (by omega)]; exact rins_14 ao cao L C cap ccap av jm jf jt nm fa fl n g w
        · rw [if_neg (by omega), if_neg (by omega), if_neg (by omega)]; exact rins_15 ao cao L C cap ccap av jm jf jt nm fa fl n g w
      · rcases (show n < 0 ∨ (0 ≤ n ∧ (L : Int) ≤ n) ∨ (0 ≤ n ∧ n < (L : Int)) by omega) with g | g | g
        · rw [if_neg (by omega), if_neg (by omega), if_pos (by omega)]; exact rins_16 ao cao L C cap ccap av jm jf jt nm fa fl n g w
        · rw [if_neg (by omega), if_neg (by omega), if_pos (by omega)]; exact rins_17 ao cao L C cap ccap av jm jf jt nm fa fl n g w
        · rw [if_neg (by omega), if_neg (by omega), if_neg (by omega)]; exact rins_18 ao cao L C cap ccap av jm jf jt nm fa fl n g w
  · have hd : insS L fl C op n = some 10 := by unfold insS; rw [if_pos h1]
    rw [hd]
    cases hc : isOp op with
    | false => exact rins_0 ao cao L C cap ccap av jm jf jt nm fa fl op n hc w
    | true =>
      cases hN : hasN op with
      | true => exact absurd ⟨hc, .inl hN⟩ h1
      | false => exact rins_1 ao cao L C cap ccap av jm jf jt nm fa fl op n hc hN (fun h => h1 ⟨hc, .inr h⟩) w
end Go.Proofs.YtgjdlloiiedpmaaLiftDoor
