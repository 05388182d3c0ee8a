/- 'CheckDead': the walk. No condition. -/
import Derived.Test.YtgjdlloiiedpmaaLiftDoorDeadP
import Derived.Test.YtgjdlloiiedpmaaLiftDoorRowO
import Derived.Test.YtgjdlloiiedpmaaLiftDoorMeets
namespace Go.Proofs.YtgjdlloiiedpmaaLiftDoor
open Go.RowKit

/-- A slice of depths that the call holds, or none: its value and what memory holds of it. -/
structure DepV (w : World) (v : Value) (r : Option (List Int)) : Prop where
  ex : ∃ ao n cap, v = .slice ao n cap ∧ n = (r.getD []).length ∧ (∀ D, r = some D → ∃ b, ao = some ⟨b, 0, none⟩ ∧ ArrAt w b (ints D))
theorem depV_of {B : Nat} {w : World} {v : Value} {r : Option (List Int)} (h : IntsOf B w v r) : DepV w v r := by
  cases r with
  | none => exact ⟨none, 0, 0, h, rfl, fun D hD => by cases hD⟩
  | some D =>
    obtain ⟨b, cap, hv, _, ha⟩ := h
    exact ⟨_, _, cap, hv, rfl, fun D' hD => by cases hD; exact ⟨b, rfl, ha⟩⟩

set_option maxRecDepth 100000 in
set_option maxHeartbeats 4000000 in
theorem dead_any (v : Value) (l : List SIns) (w : World) (hg : ErrVar w) (hl0 : CodeAt w.heap.size w v l) (hnil : ∀ c, v = .slice none l.length c → c = 0 ∧ l = []) :
    Calls Tryl.prog 8 #[v] w fun e w' => e = .returned (.bool true) ∧ Kp No w w' := by
  obtain ⟨ao, cap, rfl, c1, c2, c3⟩ := hl0.ex
  by_cases hbig : 100 < l.length
  · have d1 : decide (100 < (l.length : Int)) = true := decide_eq_true (by omega)
    clear hbig c3
    go_enter Tryl.func8, Tryl.ntmps8
    go_wp2_with (first | (go_at_call 9; (with_reducible refine (alive_any _ hg).mono ?_); rintro e w1 ⟨rfl, hk⟩))
    go_ret
    exact ⟨rfl, hk⟩
  have hl : l.length ≤ 100 := by omega
  have d1 : decide (100 < (l.length : Int)) = false := decide_eq_false (by omega)
  obtain ⟨r, D, hr, hD, hfirst, hall⟩ : ∃ (r : Int × Int × Int) (D : Option (List Int)), checkR (oneJ (deadC l)) = r ∧ depthsS (oneJ (deadC l)) 0 = D ∧
      (∀ (k : Nat) (x : SIns), l[k]? = some x → (∀ (i : Nat) (y : SIns), i < k → l[i]? = some y → wantD (l.length + 2) y = 0) → ∀ e, wantD (l.length + 2) x = e → e ≠ 0 → r = (0, (k : Int) + 2, e) ∧ D = none) ∧
      ((∀ i y, l[i]? = some y → wantD (l.length + 2) y = 0) → r = (0, 0, 0) ∧ D = some (deadD (l.length + 2))) := by
    refine ⟨_, _, rfl, rfl, fun k x hx hb e he hne => ?_, fun hb => ?_⟩
    · have h1 := dead_bad hl hx (by rw [he]; exact hne) hb
      rw [he, show ((k + 2 : Nat) : Int) = (k : Int) + 2 by omega] at h1
      exact ⟨h1, dead_depths_bad h1 hne⟩
    · have h1 := dead_good hl (fun y hy => by
        obtain ⟨i, hi⟩ := List.getElem?_of_mem hy
        exact hb i y hi)
      exact ⟨h1, dead_depths_good h1⟩
  obtain ⟨r1, r2, r3⟩ := r
  have hdl : (deadC l).length = 2 + l.length := by rw [dead_len]; omega
  clear hbig
  go_enter Tryl.func8, Tryl.ntmps8
  go_wp2_with (first
    | (go_at_call 9; (with_reducible refine (alive_any _ hg).mono ?_); rintro e w1 ⟨rfl, hk⟩; have r0 : RowC w.heap.size (.slice (some ⟨w1.heap.size, 0, none⟩) 2 2) [⟨1, 5⟩, ⟨18, 0⟩] (w1.alloc (.cells #[.int .i64 1, .int .i64 5, .int .i64 18, .int .i64 0] 29)) := rowC_lit w1 w.heap.size [⟨1, 5⟩, ⟨18, 0⟩] hk.size (by simp))
    | (at_builtin; go_loud (refine list_pushO _ _ rfl rfl w.heap.size w.heap.size _ _ [⟨1, 5⟩, ⟨18, 0⟩] l rfl rfl (hl0.to ((hk.alloc _).below (Nat.le_refl _) (fun _ x => x.elim))) r0 (by decide) (by decide) (by omega) (hk.alloc _).size (fun h => (hnil _ h).2) (fun c h => (hnil c h).1) ?_); intro g gcap w2 hrow2 hgw; have hk2 : Kp No w w2 := push_kp (hk.alloc _) r0 hgw (Nat.le_refl _); have hC : CodeAt w2.heap.size w2 (.slice (some ⟨g, 0, none⟩) (2 + l.length) gcap) (deadC l) := RowC.code (l := deadC l) hrow2 (by omega))
    | (go_at_call 10; (with_reducible refine (oneJ_any (deadC l) _ _ hC).mono ?_); rintro e w3 ⟨fv, rfl, hk3, hJ⟩; have hk3' := hk2.trans hk3 (fun _ _ h => h); have hg3 : ErrVar w3 := hk3'.cell hg (fun x => x))
    | (go_at_call 11; (with_reducible refine (check_one (deadC l) _ hr _ _ hg3 hJ).mono ?_); rintro e w4 ⟨rfl, hk4⟩; have hk4' := hk3'.trans hk4 (fun _ _ h => h))
    | (fail))
  have hC4 : CodeAt w4.heap.size w4 (.slice (some ⟨g, 0, none⟩) (2 + l.length) gcap) (deadC l) := (RowC.kp hrow2 (hk3.trans hk4 (fun _ _ h => h) : Kp No w2 w4) (fun _ _ x => x)).code (by simp; omega)
  have hg4 : ErrVar w4 := hk4'.cell hg (fun x => x)
  clear hk3' hg3 hJ hk3 hk4 hk2 hC hrow2 hgw
  go_wp2_with (first
    | (go_at_call 10; (with_reducible refine (oneJ_any (deadC l) _ _ hC4).mono ?_); rintro e w5 ⟨fv5, rfl, hk5, hJ5⟩; have hk5' := hk4'.trans hk5 (fun _ _ h => h); have hg5 : ErrVar w5 := hk5'.cell hg (fun x => x))
    | (go_at_call 15; (with_reducible refine (depths_one (deadC l) _ hD _ _ hg5 hJ5).mono ?_); rintro e w6 ⟨v6, rfl, hv6, hk6⟩; obtain ⟨dao, dn, dcap, rfl, hdn0, hdep⟩ := (depV_of hv6).ex; have HDN := Lib.hid hdn0; clear hdn0; have hk6' := hk5'.trans hk6 (fun _ _ h => h); clear hk5' hk6 hk5 hJ5 hv6)
    | (fail))
  clear hC4 hg4 hg5 hr hD c1 c2 hdl
  have L0 : ∀ (j : Nat) (x : SIns), l[j]? = some x → ∃ b o, ao = some ⟨b, o, none⟩ ∧ b < w.heap.size ∧ w.cell? ⟨b, o + j * 2, none⟩ = some (.int .i64 x.op) ∧ w.cell? ⟨b, o + j * 2 + 1, none⟩ = some (.int .i64 x.n) := by
    intro j x hx
    obtain ⟨b, o, hb, ha, hc⟩ := c3 (by
      rcases Nat.lt_or_ge j l.length with h | h
      · omega
      · rw [List.getElem?_eq_none h] at hx; cases hx)
    exact ⟨b, o, ha, hb, hc j x hx⟩
  clear c3
  go_loopw [9] (fun i wr => ∃ (k : Nat), k ≤ l.length ∧ i = .int .i64 k ∧ (∀ i y, i < k → l[i]? = some y → wantD (l.length + 2) y = 0) ∧ Kp No w6 wr ∧ Kp No w wr) (fun i _ => l.length - (intOf i).toNat)
  case atStart => exact ⟨0, by omega, rfl, fun i y hi => absurd hi (by omega), Kp.refl _ _, hk6'⟩
  case round =>
    obtain ⟨k, hk0, rfl, hprev, hkp, hkw⟩ := hrel
    clear hk6'
    by_cases hlt : k < l.length
    · obtain ⟨x, hx⟩ : ∃ x, l[k]? = some x := ⟨_, List.getElem?_eq_getElem hlt⟩
      obtain ⟨op, a⟩ := x
      obtain ⟨b, o, rfl, hbs, hx0, hx1⟩ := L0 k _ hx
      simp only at hx0 hx1
      have x0 := hkw.cell hx0 (fun x => x)
      have x1 := hkw.cell hx1 (fun x => x)
      have hbad := hfirst k _ hx hprev
      have hgood : wantD (l.length + 2) ⟨op, a⟩ = 0 → ∀ i y, i < k + 1 → l[i]? = some y → wantD (l.length + 2) y = 0 := fun h i y hi hy => by
        rcases (show i < k ∨ i = k by omega) with h' | rfl
        · exact hprev i y h' hy
        · rw [hx] at hy; cases hy; exact h
      have HK := Lib.hid (show k + 1 ≤ l.length by omega)
      have hkI : (k : Int) < l.length := by omega
      have hk00 : (0 : Int) ≤ k := by omega
      clear hx hx0 hx1 L0 hfirst hall hbs
      rcases (show (op < 1) ∨ (19 < op) ∨ (1 ≤ op ∧ op ≤ 19 ∧ op ≠ 1 ∧ op ≠ 5 ∧ op ≠ 6 ∧ op ≠ 14 ∧ op ≠ 15 ∧ op ≠ 16 ∧ a ≠ 0) ∨ (op = 5) ∨ (op = 6) ∨ (op = 14 ∧ a < 0) ∨ (op = 14 ∧ 0 ≤ a ∧ 2 + (l.length : Int) ≤ a) ∨ (op = 15 ∧ a < 0) ∨ (op = 15 ∧ 0 ≤ a ∧ 2 + (l.length : Int) ≤ a) ∨ (op = 16 ∧ a ≠ 0) ∨ (op = 1) ∨ (op = 14 ∧ 0 ≤ a ∧ a < 2 + (l.length : Int)) ∨ (op = 15 ∧ 0 ≤ a ∧ a < 2 + (l.length : Int)) ∨ (op = 16 ∧ a = 0) ∨ (1 ≤ op ∧ op ≤ 19 ∧ op ≠ 1 ∧ op ≠ 5 ∧ op ≠ 6 ∧ op ≠ 14 ∧ op ≠ 15 ∧ op ≠ 16 ∧ a = 0) by omega) with hc | hc | hc | rfl | rfl | ⟨rfl, hc⟩ | ⟨rfl, hc⟩ | ⟨rfl, hc⟩ | ⟨rfl, hc⟩ | ⟨rfl, hc⟩ | rfl | ⟨rfl, hc⟩ | ⟨rfl, hc⟩ | ⟨rfl, rfl⟩ | ⟨h1, h2, h3, h4, h5, h6, h7, h8, rfl⟩
      · obtain ⟨hr0, rfl⟩ := hbad 10 (by rw [want_eq]; simp [hasN] <;> omega) (by omega)
        cases hr0
        obtain rfl : dn = 0 := HDN.out
        have d1 : decide (op < 1) = true := decide_eq_true (by omega)
        have q1 : (op == 1) = false := by simp; omega
        have q5 : (op == 5) = false := by simp; omega
        have q6 : (op == 6) = false := by simp; omega
        have q14 : (op == 14) = false := by simp; omega
        have q15 : (op == 15) = false := by simp; omega
        have q16 : (op == 16) = false := by simp; omega
        clear hgood hbad hprev HDN hc
        go_wp2_with (first | (go_at_call 12; (with_reducible refine (num_any _ _).mono ?_); rintro e w' ⟨rfl, rfl⟩))
        go_ret
        exact ⟨rfl, hkw.alloc _⟩
      · obtain ⟨hr0, rfl⟩ := hbad 10 (by rw [want_eq]; simp [hasN] <;> omega) (by omega)
        cases hr0
        obtain rfl : dn = 0 := HDN.out
        have d1 : decide (op < 1) = false := decide_eq_false (by omega)
        have d2 : decide (19 < op) = true := decide_eq_true (by omega)
        have q1 : (op == 1) = false := by simp; omega
        have q5 : (op == 5) = false := by simp; omega
        have q6 : (op == 6) = false := by simp; omega
        have q14 : (op == 14) = false := by simp; omega
        have q15 : (op == 15) = false := by simp; omega
        have q16 : (op == 16) = false := by simp; omega
        clear hgood hbad hprev HDN hc
        go_wp2_with (first | (go_at_call 12; (with_reducible refine (num_any _ _).mono ?_); rintro e w' ⟨rfl, rfl⟩))
        go_ret
        exact ⟨rfl, hkw.alloc _⟩
      · obtain ⟨hr0, rfl⟩ := hbad 10 (by rw [want_eq]; simp [hasN] <;> omega) (by omega)
        cases hr0
        obtain rfl : dn = 0 := HDN.out
        have d1 : decide (op < 1) = false := decide_eq_false (by omega)
        have d2 : decide (19 < op) = false := decide_eq_false (by omega)
        have n0 : (a != 0) = true := by simp; omega
        have q1 : (op == 1) = false := by simp; omega
        have q5 : (op == 5) = false := by simp; omega
        have q6 : (op == 6) = false := by simp; omega
        have q14 : (op == 14) = false := by simp; omega
        have q15 : (op == 15) = false := by simp; omega
        have q16 : (op == 16) = false := by simp; omega
        clear hgood hbad hprev HDN hc
        go_wp2_with (first | (go_at_call 12; (with_reducible refine (num_any _ _).mono ?_); rintro e w' ⟨rfl, rfl⟩))
        go_ret
        exact ⟨rfl, hkw.alloc _⟩
      · obtain ⟨hr0, rfl⟩ := hbad 13 (by rw [want_eq]; simp [hasN] <;> omega) (by omega)
        cases hr0
        obtain rfl : dn = 0 := HDN.out
        clear hgood hbad hprev HDN
        go_wp2_with (first | (go_at_call 12; (with_reducible refine (num_any _ _).mono ?_); rintro e w' ⟨rfl, rfl⟩))
        go_ret
        exact ⟨rfl, hkw.alloc _⟩
      · obtain ⟨hr0, rfl⟩ := hbad 13 (by rw [want_eq]; simp [hasN] <;> omega) (by omega)
        cases hr0
        obtain rfl : dn = 0 := HDN.out
        clear hgood hbad hprev HDN
        go_wp2_with (first | (go_at_call 12; (with_reducible refine (num_any _ _).mono ?_); rintro e w' ⟨rfl, rfl⟩))
        go_ret
        exact ⟨rfl, hkw.alloc _⟩
      · obtain ⟨hr0, rfl⟩ := hbad 11 (by rw [want_eq]; simp [hasN] <;> omega) (by omega)
        cases hr0
        obtain rfl : dn = 0 := HDN.out
        have a1 : decide (a < 0) = true := decide_eq_true (by omega)
        clear hgood hbad hprev HDN hc
        go_wp2_with (first | (go_at_call 12; (with_reducible refine (num_any _ _).mono ?_); rintro e w' ⟨rfl, rfl⟩))
        go_ret
        exact ⟨rfl, hkw.alloc _⟩
      · obtain ⟨hr0, rfl⟩ := hbad 11 (by rw [want_eq]; simp [hasN] <;> omega) (by omega)
        cases hr0
        obtain rfl : dn = 0 := HDN.out
        have a1 : decide (a < 0) = false := decide_eq_false (by omega)
        have a2 : decide (2 + (l.length : Int) ≤ a) = true := decide_eq_true (by omega)
        clear hgood hbad hprev HDN hc
        go_wp2_with (first | (go_at_call 12; (with_reducible refine (num_any _ _).mono ?_); rintro e w' ⟨rfl, rfl⟩))
        go_ret
        exact ⟨rfl, hkw.alloc _⟩
      · obtain ⟨hr0, rfl⟩ := hbad 11 (by rw [want_eq]; simp [hasN] <;> omega) (by omega)
        cases hr0
        obtain rfl : dn = 0 := HDN.out
        have a1 : decide (a < 0) = true := decide_eq_true (by omega)
        clear hgood hbad hprev HDN hc
        go_wp2_with (first | (go_at_call 12; (with_reducible refine (num_any _ _).mono ?_); rintro e w' ⟨rfl, rfl⟩))
        go_ret
        exact ⟨rfl, hkw.alloc _⟩
      · obtain ⟨hr0, rfl⟩ := hbad 11 (by rw [want_eq]; simp [hasN] <;> omega) (by omega)
        cases hr0
        obtain rfl : dn = 0 := HDN.out
        have a1 : decide (a < 0) = false := decide_eq_false (by omega)
        have a2 : decide (2 + (l.length : Int) ≤ a) = true := decide_eq_true (by omega)
        clear hgood hbad hprev HDN hc
        go_wp2_with (first | (go_at_call 12; (with_reducible refine (num_any _ _).mono ?_); rintro e w' ⟨rfl, rfl⟩))
        go_ret
        exact ⟨rfl, hkw.alloc _⟩
      · obtain ⟨hr0, rfl⟩ := hbad 14 (by rw [want_eq]; simp [hasN] <;> omega) (by omega)
        cases hr0
        obtain rfl : dn = 0 := HDN.out
        have n0 : (a != 0) = true := by simp; omega
        clear hgood hbad hprev HDN hc
        go_wp2_with (first | (go_at_call 12; (with_reducible refine (num_any _ _).mono ?_); rintro e w' ⟨rfl, rfl⟩))
        go_ret
        exact ⟨rfl, hkw.alloc _⟩
      · have HG := Lib.hid (hgood (by rw [want_eq]; simp [hasN] <;> omega))
        clear hgood hbad hprev HDN
        go_wp2
        go_roundw
        case rel => exact ⟨k + 1, HK.out, by go_num, HG.out, hkp.alloc _, hkw.alloc _⟩
        case measure => simp [intOf]; have := HK.out; omega
      · have HG := Lib.hid (hgood (by rw [want_eq]; simp [hasN] <;> omega))
        have a1 : decide (a < 0) = false := decide_eq_false (by omega)
        have a2 : decide (2 + (l.length : Int) ≤ a) = false := decide_eq_false (by omega)
        clear hgood hbad hprev HDN hc
        go_wp2
        go_roundw
        case rel => exact ⟨k + 1, HK.out, by go_num, HG.out, hkp.alloc _, hkw.alloc _⟩
        case measure => simp [intOf]; have := HK.out; omega
      · have HG := Lib.hid (hgood (by rw [want_eq]; simp [hasN] <;> omega))
        have a1 : decide (a < 0) = false := decide_eq_false (by omega)
        have a2 : decide (2 + (l.length : Int) ≤ a) = false := decide_eq_false (by omega)
        clear hgood hbad hprev HDN hc
        go_wp2
        go_roundw
        case rel => exact ⟨k + 1, HK.out, by go_num, HG.out, hkp.alloc _, hkw.alloc _⟩
        case measure => simp [intOf]; have := HK.out; omega
      · have HG := Lib.hid (hgood (by rw [want_eq]; simp [hasN] <;> omega))
        clear hgood hbad hprev HDN
        go_wp2
        go_roundw
        case rel => exact ⟨k + 1, HK.out, by go_num, HG.out, hkp.alloc _, hkw.alloc _⟩
        case measure => simp [intOf]; have := HK.out; omega
      · have HG := Lib.hid (hgood (by rw [want_eq]; simp [hasN] <;> omega))
        have d1 : decide (op < 1) = false := decide_eq_false (by omega)
        have d2 : decide (19 < op) = false := decide_eq_false (by omega)
        have q1 : (op == 1) = false := by simp; omega
        have q5 : (op == 5) = false := by simp; omega
        have q6 : (op == 6) = false := by simp; omega
        have q14 : (op == 14) = false := by simp; omega
        have q15 : (op == 15) = false := by simp; omega
        have q16 : (op == 16) = false := by simp; omega
        clear hgood hbad hprev HDN h1 h2 h3 h4 h5 h6 h7 h8
        go_wp2
        go_roundw
        case rel => exact ⟨k + 1, HK.out, by go_num, HG.out, hkp.alloc _, hkw.alloc _⟩
        case measure => simp [intOf]; have := HK.out; omega
    · have hkl : k = l.length := by omega
      subst hkl
      obtain ⟨hr0, hD0⟩ := hall (fun i y hy => hprev i y (by
        rcases Nat.lt_or_ge i l.length with h | h
        · exact h
        · rw [List.getElem?_eq_none h] at hy; cases hy) hy)
      subst hD0
      cases hr0
      obtain ⟨db, rfl, hd6⟩ := hdep _ rfl
      have hdr := hd6.kp hkp (fun x => x)
      obtain rfl : dn = 2 + l.length := by rw [HDN.out]; show (deadD (l.length + 2)).length = _; rw [deadD_len]; omega
      have g0 := hdr.cell (j := 0) (v := .int .i64 0) (by rw [ints, List.getElem?_map, deadD_get (by omega)]; rfl)
      have g1 := hdr.cell (j := 1) (v := .int .i64 1) (by rw [ints, List.getElem?_map, deadD_get (by omega)]; rfl)
      have b0 : (0 : Int) < ((2 + l.length : Nat) : Int) := by omega
      have b1 : (1 : Int) < ((2 + l.length : Nat) : Int) := by omega
      have L1 : ∀ j : Nat, 2 ≤ j → j < 2 + l.length → wr.cell? ⟨db, j, none⟩ = some (.int .i64 (-1)) := fun j h1 h2 =>
        hdr.cell (by rw [ints, List.getElem?_map, deadD_get (by omega), if_neg (by omega), if_neg (by omega)]; rfl)
      clear hfirst hall L0 hprev hd6 HDN hdep hkp hlt
      go_wp2_with (first | (go_at_call 12; (with_reducible refine (num_any _ _).mono ?_); rintro e w' ⟨rfl, rfl⟩))
      go_loopw [13] (fun i wr2 => ∃ (j : Nat), 2 ≤ j ∧ j ≤ 2 + l.length ∧ i = .int .i64 j ∧ wr2 = wr) (fun i _ => 2 + l.length - (intOf i).toNat)
      case atStart => exact ⟨2, by omega, by omega, rfl, rfl⟩
      case round =>
        obtain ⟨j, hj2, hj, rfl, rfl⟩ := hrel
        by_cases hlt : j < 2 + l.length
        · have hc := L1 j hj2 hlt
          have hjI : (j : Int) < ((2 + l.length : Nat) : Int) := by omega
          have hj0 : (0 : Int) ≤ j := by omega
          go_wp2
          go_roundw
          case rel => exact ⟨j + 1, by omega, by omega, by go_num, trivial⟩
          case measure => simp [intOf]; omega
        · obtain rfl : j = 2 + l.length := by omega
          go_wp2
          go_ret
          exact ⟨rfl, hkw⟩
end Go.Proofs.YtgjdlloiiedpmaaLiftDoor
