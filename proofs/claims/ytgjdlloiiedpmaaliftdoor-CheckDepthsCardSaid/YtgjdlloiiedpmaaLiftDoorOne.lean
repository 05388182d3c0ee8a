/- '(*walk).one': an instruction is gone over. No condition. -/
import Derived.Test.YtgjdlloiiedpmaaLiftDoorWk
namespace Go.Proofs.YtgjdlloiiedpmaaLiftDoor
open Go.RowKit

/-- One place that an instruction goes on to. -/
def stepS (D : List Int) (left n : Int) : Option Int × List Int :=
  if ¬ (0 ≤ n ∧ n < (D.length : Int)) then (some 11, D)
  else
    let D' := if D.getD n.toNat (-1) < 0 then D.set n.toNat left else D
    if D'.getD n.toNat (-1) = left then (none, D') else (some 12, D')
def stepsS (left : Int) : List Int → List Int → Option Int × List Int
  | [], D => (none, D)
  | n :: r, D => match stepS D left n with
    | (some e, D') => (some e, D')
    | (none, D') => stepsS left r D'
def oneS (fs : List SFunc) (code : List SIns) (D : List Int) (k : Nat) : Option Int × List Int :=
  let x := code.getD k ⟨0, 0⟩
  let left := wrap64 (D.getD k (-1) - popsS x.op x.n fs.length (argsOf fs x.n))
  if left < 0 then (some 12, D)
  else
    let l2 := wrap64 (left + pushesS x.op)
    if 32 < l2 then (some 12, D) else stepsS l2 (nextS x.op x.n k) D

theorem next_len (op n k : Int) : (nextS op n k).length ≤ 2 := by
  unfold nextS; (repeat' split) <;> simp

/-- What going over an instruction leaves. -/
def OneE (s : WkC) (k : Nat) (G : List Bool) (r : Option Int × List Int) (w : World) (e : Ending) (w' : World) : Prop :=
  Gives s.f k r.1 e ∧ Kp (fun b => b = s.cb ∨ b = s.db) w w' ∧ Wk s k r.2 G w'

set_option maxRecDepth 100000 in
set_option maxHeartbeats 2000000 in
theorem one_any (s : WkC) (i : Int) (k : Nat) (x : SIns) (D : List Int) (G : List Bool) (w : World) (h : Wk s i D G w) (hx : s.code[k]? = some x) :
    Calls Tryl.prog 30 #[.pointer (some ⟨s.wb, 0, none⟩), .int .i64 k] w (OneE s k G (oneS s.J.funcs s.code D k) w) := by
  have hk : k < s.code.length := by
    rcases Nat.lt_or_ge k s.code.length with g | g
    · exact g
    · rw [List.getElem?_eq_none g] at hx; cases hx
  have hsh := s.short
  obtain ⟨w3, w4, w5, w6, c0, c5, c6, f6, lw, lc, ld, lg⟩ := h.cells
  obtain ⟨xb, xo, hxb, hxa, x0, x1⟩ := h.insAt hx
  have hkD : k < D.length := by rw [h.lD]; exact hk
  obtain ⟨d, hd⟩ : ∃ d, D[k] = d := ⟨_, rfl⟩
  have dk := h.aD.cell (v := .int .i64 d) (by rw [ints_at hkD, hd])
  have lx := World.block_lt_of_cell? _ _ x0
  simp only at lx
  rw [hxa] at w3
  have HX := Lib.hid hx
  clear hx
  obtain ⟨R, hR⟩ : ∃ R, R = oneS s.J.funcs s.code D k := ⟨_, rfl⟩
  rw [← hR]
  have HR0 := Lib.hid hR
  clear hR
  go_enter Tryl.func30, Tryl.ntmps30
  go_wp2
  have H : Wk s k D G ((w.setCell ⟨s.cb, 6, none⟩ (.int .i64 k)).alloc (.cells #[.int .i64 x.op, .int .i64 x.n] 29)) := (h.setI k).kp (kp_al _ _)
  have HK : Kp (fun b => b = s.cb ∨ b = s.db) w ((w.setCell ⟨s.cb, 6, none⟩ (.int .i64 k)).alloc (.cells #[.int .i64 x.op, .int .i64 x.n] 29)) := ((Kp.refl _ _).setCell _ _ (fun _ => Or.inl rfl)).alloc _
  have HB : ((w.setCell ⟨s.cb, 6, none⟩ (.int .i64 k)).alloc (.cells #[.int .i64 x.op, .int .i64 x.n] 29)).heap[w.heap.size]? = some (.cells #[.int .i64 x.op, .int .i64 x.n] 29 (0, 0)) := blk_new _ _ _ (by simp [World.setCell])
  generalize (w.setCell ⟨s.cb, 6, none⟩ (.int .i64 k)).alloc (.cells #[.int .i64 x.op, .int .i64 x.n] 29) = W at H HK HB ⊢
  generalize w.heap.size = xw at HB ⊢
  clear w3 w4 w5 w6 c0 c5 c6 f6 lw lc ld lg x0 x1 dk lx h
  have g4 := fun d os => cell_regrown H.cells.w4 d os
  have g5 := fun d os => cell_regrown H.cells.w5 d os
  have g0 := fun d os => cell_regrown H.cells.c0 d os
  have gd := fun dd os => cell_regrown (H.aD.cell (j := k) (v := .int .i64 d) (by rw [ints_at hkD, hd])) dd os
  have gx0 := fun d os => cell_regrown (cell_blk HB 0 rfl) d os
  have gx1 := fun d os => cell_regrown (cell_blk HB 1 rfl) d os
  have P := fun d os => Calls.regrown_of (w := W) (d := d) (os := os) (pops_any x.op x.n s.fao s.J.funcs.length s.fcap (argsOf s.J.funcs x.n) _ (fun a b c => by
    obtain ⟨b', o', e1, e2⟩ := H.argsAt x.op x.n a b c
    exact ⟨b', o', e1, cell_regrown e2 _ _⟩))
  refine wp_region_quiet_below (by kernel_rfl) (by kernel_rfl) ?_
  repeat (go_big_quiet_step ((go_at_call 42; exact P _ _)))
  refine wpQuiet_nil ?_
  rintro W' ⟨p, hp⟩
  have hW : Kp No W W' := Kp.of_new (hp ▸ below_regrown W p.d p.os)
  clear hp p g4 g5 g0 gd gx0 gx1 P
  have H1 := H.kp hW
  have HK1 : Kp (fun b => b = s.cb ∨ b = s.db) w W' := HK.trans hW (fun _ _ x => x.elim)
  have HB1 := hW.blk HB (fun x => x)
  clear H HK HB hW
  have HS : Hid (R = if wrap64 (d - popsS x.op x.n s.J.funcs.length (argsOf s.J.funcs x.n)) < 0 then (some 12, D) else
      if 32 < wrap64 (wrap64 (d - popsS x.op x.n s.J.funcs.length (argsOf s.J.funcs x.n)) + pushesS x.op) then (some 12, D) else stepsS (wrap64 (wrap64 (d - popsS x.op x.n s.J.funcs.length (argsOf s.J.funcs x.n)) + pushesS x.op)) (nextS x.op x.n k) D) := by
    unfold Hid; rw [HR0.out]; unfold oneS
    rw [List.getD_eq_getElem?_getD, List.getD_eq_getElem?_getD, HX.out, List.getElem?_eq_getElem hkD, hd]; rfl
  generalize wrap64 (d - popsS x.op x.n s.J.funcs.length (argsOf s.J.funcs x.n)) = left at HS ⊢
  clear HX hd hkD HR0
  obtain ⟨w3, w4, w5, w6, c0, c5, c6, f6, lw, lc, ld, lg⟩ := H1.cells
  have x0 := cell_blk HB1 0 (v := .int .i64 x.op) rfl
  have x1 := cell_blk HB1 1 (v := .int .i64 x.n) rfl
  have lx := lt_of_block HB1
  rw [hxa] at w3
  by_cases hl0 : left < 0
  · have HR : Hid (R = (some 12, D)) := by unfold Hid; rw [HS.out, if_pos hl0]
    have d0 : decide (0 ≤ left) = false := by simp; omega
    clear hl0 HS
    go_wp2_with (first | (go_at_call 26; (with_reducible refine (need_no s.cb s.f k _ _ (by assumption) (by assumption)).mono ?_); rintro e w' ⟨rfl, q, rfl⟩) | (go_at_call 26; (with_reducible refine (need_yes _ _ _).mono ?_); rintro e w' ⟨rfl, rfl⟩))
    exact ⟨rfl, by rw [HR.out]; rfl, HK1.drewN _, by rw [HR.out]; exact H1.kp ((Kp.refl _ _).drewN _)⟩
  have d0 : decide (0 ≤ left) = true := by simp; omega
  have HS' : Hid (R = if 32 < wrap64 (left + pushesS x.op) then (some 12, D) else stepsS (wrap64 (left + pushesS x.op)) (nextS x.op x.n k) D) := by
    unfold Hid; rw [HS.out, if_neg hl0]
  clear hl0 HS
  go_wp2_with (first | (go_at_call 26; (with_reducible refine (need_yes _ _ _).mono ?_); rintro e w' ⟨rfl, rfl⟩) | (go_at_call 43; fail))
  refine (pushes_any x.op x.n _).mono ?_
  rintro e W2 ⟨rfl, hb2⟩
  have H2 := H1.to_of hb2
  have HK2 : Kp (fun b => b = s.cb ∨ b = s.db) w W2 := HK1.trans (Kp.of_new hb2) (fun _ _ x => x.elim)
  have HB2 := (Kp.of_new hb2).blk HB1 (fun x => x)
  clear w3 w4 w5 w6 c0 c5 c6 f6 lw lc ld lg x0 x1 lx H1 HK1 HB1 hb2
  obtain ⟨w3, w4, w5, w6, c0, c5, c6, f6, lw, lc, ld, lg⟩ := H2.cells
  have x0 := cell_blk HB2 0 (v := .int .i64 x.op) rfl
  have x1 := cell_blk HB2 1 (v := .int .i64 x.n) rfl
  have lx := lt_of_block HB2
  rw [hxa] at w3
  obtain ⟨l2, hl2⟩ : ∃ l2, wrap64 (left + pushesS x.op) = l2 := ⟨_, rfl⟩
  rw [hl2] at HS'
  by_cases hl3 : 32 < l2
  · have HR : Hid (R = (some 12, D)) := by unfold Hid; rw [HS'.out, if_pos hl3]
    have d1 : decide (l2 ≤ 32) = false := by simp; omega
    clear hl3 HS'
    go_wp2_with (first | (go_at_call 26; (with_reducible refine (need_no s.cb s.f k _ _ (by assumption) (by assumption)).mono ?_); rintro e w' ⟨rfl, q, rfl⟩))
    exact ⟨rfl, by rw [HR.out]; rfl, HK2.drewN _, by rw [HR.out]; exact H2.kp ((Kp.refl _ _).drewN _)⟩
  have d1 : decide (l2 ≤ 32) = true := by simp; omega
  have HT : Hid (R = stepsS l2 (nextS x.op x.n k) D) := by unfold Hid; rw [HS'.out, if_neg hl3]
  clear hl3 HS'
  go_wp2_with (first | (go_at_call 26; (with_reducible refine (need_yes _ _ _).mono ?_); rintro e w' ⟨rfl, rfl⟩) | (go_at_call 44; fail))
  refine (next_any x.op x.n k _ (by omega) (by omega)).mono ?_
  rintro e W3 ⟨nv, rfl, hnv, hb3⟩
  have H3 := H2.to_of hb3
  have HK2s := lc
  have HK2d := ld
  have HK3 : Kp (fun b => b = s.cb ∨ b = s.db) w W3 := HK2.trans (Kp.of_new hb3) (fun _ _ x => x.elim)
  clear w3 w4 w5 w6 c0 c5 c6 f6 lw lc ld lg x0 x1 lx H2 HK2 HB2 hb3 hl2
  have hnsl := next_len x.op x.n k
  generalize nextS x.op x.n k = ns at HT hnv hnsl
  obtain ⟨nao, ncap, rfl, n3⟩ := hnv.ex
  go_wp2
  go_loopw [63] (fun i wr => ∃ (j : Nat) (D' : List Int), j ≤ ns.length ∧ i = .int .i64 j ∧ Kp (fun b => b = s.cb ∨ b = s.db) W3 wr ∧ Wk s k D' G wr ∧ R = stepsS l2 (ns.drop j) D') (fun i _ => ns.length - (intOf i).toNat)
  case atStart => exact ⟨0, D, by omega, rfl, Kp.refl _ _, H3, HT.out⟩
  case round =>
    obtain ⟨j, D', hj, rfl, hkp, hwk, hR⟩ := hrel
    have HR := Lib.hid hR
    clear hR
    obtain ⟨w3, w4, w5, w6, c0, c5, c6, f6, lw, lc, ld, lg⟩ := hwk.cells
    by_cases hlt : j < ns.length
    · obtain ⟨nb, hnb, rfl, hnc⟩ := n3 (by intro hh; rw [hh] at hlt; simp at hlt)
      obtain ⟨m, hm⟩ : ∃ m, ns[j] = m := ⟨_, rfl⟩
      have nj : wr.cell? ⟨nb, j, none⟩ = some (.int .i64 m) := hkp.cell (hnc j m (by rw [List.getElem?_eq_getElem hlt, hm])) (by
        rintro (h | h) <;> simp only at h <;> omega)
      have HD : Hid (ns.drop j = m :: ns.drop (j + 1)) := by unfold Hid; rw [List.drop_eq_getElem_cons hlt, hm]
      have HS2 : Hid (R = match stepS D' l2 m with | (some e, D'') => (some e, D'') | (none, D'') => stepsS l2 (ns.drop (j + 1)) D'') := by
        unfold Hid; rw [HR.out, HD.out]; rfl
      clear hm hnc
      by_cases hin : 0 ≤ m ∧ m < (s.code.length : Int)
      · obtain ⟨mm, rfl⟩ : ∃ mm : Nat, m = mm := ⟨m.toNat, by omega⟩
        have hmD : mm < D'.length := by rw [hwk.lD]; omega
        have hml : mm < s.code.length := by omega
        obtain ⟨dm, hdm⟩ : ∃ dm, D'[mm] = dm := ⟨_, rfl⟩
        have hst : Hid (stepS D' l2 mm = if (if dm < 0 then D'.set mm l2 else D').getD mm (-1) = l2 then (none, if dm < 0 then D'.set mm l2 else D') else (some 12, if dm < 0 then D'.set mm l2 else D')) := by
          unfold Hid stepS
          rw [if_neg (by simp; omega), Int.toNat_natCast]
          rw [show D'.getD mm (-1) = dm by rw [List.getD_eq_getElem?_getD, List.getElem?_eq_getElem hmD, hdm]; rfl]
        have cm := hwk.aD.cell (j := mm) (v := .int .i64 dm) (by rw [ints_at hmD, hdm])
        have fm := hwk.aD.free mm
        have d2 : decide (0 ≤ (mm : Int)) = true := by simp
        have d3 : decide ((mm : Int) < (s.code.length : Int)) = true := by simp; omega
        by_cases hneg : dm < 0
        · have HE : Hid (R = stepsS l2 (ns.drop (j + 1)) (D'.set mm l2)) := by
            unfold Hid; rw [HS2.out, hst.out, if_pos hneg]
            rw [if_pos (by rw [List.getD_eq_getElem?_getD, List.getElem?_set_self hmD]; rfl)]
          clear hst HS2 hin hdm
          go_wp2
          refine wp_quiet_tail 16 (by kernel_rfl) (by kernel_rfl) ?_
          simp only [List.take_succ_cons, List.take_zero, List.drop_succ_cons, List.drop_zero]
          repeat (go_big_quiet_step (fail))
          refine wpQuiet_nil ?_
          go_wp2_with (first | (go_at_call 26; (with_reducible refine (need_yes _ _ _).mono ?_); rintro e w' ⟨rfl, rfl⟩))
          have H4 : Wk s k (D'.set mm l2) G (wr.setCell ⟨s.db, mm, none⟩ (.int .i64 l2)).drew := (hwk.setD mm l2).kp (Kp.refl _ _).drew
          have HK4 : Kp (fun b => b = s.cb ∨ b = s.db) W3 (wr.setCell ⟨s.db, mm, none⟩ (.int .i64 l2)).drew := (hkp.setCell _ _ (fun _ => Or.inr rfl)).drew
          generalize (wr.setCell ⟨s.db, mm, none⟩ (.int .i64 l2)).drew = W4 at H4 HK4 ⊢
          clear w3 w4 w5 w6 c0 c5 c6 f6 lw lc ld lg cm fm hwk hkp nj
          obtain ⟨w3, w4, w5, w6, c0, c5, c6, f6, lw, lc, ld, lg⟩ := H4.cells
          have cm := H4.aD.cell (j := mm) (v := .int .i64 l2) (by rw [← ints_set, List.getElem?_set_self (by simpa [ints] using hmD)])
          refine wp_quiet_tail 13 (by kernel_rfl) (by kernel_rfl) ?_
          simp only [List.take_succ_cons, List.take_zero, List.drop_succ_cons, List.drop_zero]
          repeat (go_big_quiet_step (fail))
          refine wpQuiet_nil ?_
          go_wp2_with (first | (go_at_call 26; (with_reducible refine (need_yes _ _ _).mono ?_); rintro e w' ⟨rfl, rfl⟩))
          go_roundw
          case rel =>
            exact ⟨j + 1, _, by omega, by go_num, HK4.drew, H4.kp (Kp.refl _ _).drew, HE.out⟩
          case measure => simp [intOf]; omega
        · have hge : 0 ≤ dm := by omega
          have hst' : Hid (stepS D' l2 mm = if dm = l2 then (none, D') else (some 12, D')) := by
            unfold Hid; rw [hst.out, if_neg hneg]
            rw [show D'.getD mm (-1) = dm by rw [List.getD_eq_getElem?_getD, List.getElem?_eq_getElem hmD, hdm]; rfl]
          by_cases heq : dm = l2
          · have HE : Hid (R = stepsS l2 (ns.drop (j + 1)) D') := by
              unfold Hid; rw [HS2.out, hst'.out, if_pos heq]
            have e1 : (dm == l2) = true := by simp [heq]
            clear hst hst' HS2 hin hdm heq hneg
            go_wp2
            refine wp_quiet_tail 16 (by kernel_rfl) (by kernel_rfl) ?_
            simp only [List.take_succ_cons, List.take_zero, List.drop_succ_cons, List.drop_zero]
            repeat (go_big_quiet_step (fail))
            refine wpQuiet_nil ?_
            go_wp2_with (first | (go_at_call 26; (with_reducible refine (need_yes _ _ _).mono ?_); rintro e w' ⟨rfl, rfl⟩))
            have H4 : Wk s k D' G wr.drew := hwk.kp (Kp.refl _ _).drew
            have HK4 : Kp (fun b => b = s.cb ∨ b = s.db) W3 wr.drew := hkp.drew
            have cm4 : wr.drew.cell? ⟨s.db, mm, none⟩ = some (.int .i64 dm) := cm
            generalize wr.drew = W4 at H4 HK4 cm4 ⊢
            clear w3 w4 w5 w6 c0 c5 c6 f6 lw lc ld lg cm fm hwk hkp nj
            obtain ⟨w3, w4, w5, w6, c0, c5, c6, f6, lw, lc, ld, lg⟩ := H4.cells
            refine wp_quiet_tail 13 (by kernel_rfl) (by kernel_rfl) ?_
            simp only [List.take_succ_cons, List.take_zero, List.drop_succ_cons, List.drop_zero]
            repeat (go_big_quiet_step (fail))
            refine wpQuiet_nil ?_
            go_wp2_with (first | (go_at_call 26; (with_reducible refine (need_yes _ _ _).mono ?_); rintro e w' ⟨rfl, rfl⟩))
            go_roundw
            case rel => exact ⟨j + 1, _, by omega, by go_num, HK4.drew, H4.kp (Kp.refl _ _).drew, HE.out⟩
            case measure => simp [intOf]; omega
          · have HE : Hid (R = (some 12, D')) := by
              unfold Hid; rw [HS2.out, hst'.out, if_neg heq]
            have e1 : (dm == l2) = false := by simp [heq]
            clear hst hst' HS2 hin hdm heq hneg
            go_wp2
            refine wp_quiet_tail 16 (by kernel_rfl) (by kernel_rfl) ?_
            simp only [List.take_succ_cons, List.take_zero, List.drop_succ_cons, List.drop_zero]
            repeat (go_big_quiet_step (fail))
            refine wpQuiet_nil ?_
            go_wp2_with (first | (go_at_call 26; (with_reducible refine (need_yes _ _ _).mono ?_); rintro e w' ⟨rfl, rfl⟩))
            have H4 : Wk s k D' G wr.drew := hwk.kp (Kp.refl _ _).drew
            have HK4 : Kp (fun b => b = s.cb ∨ b = s.db) W3 wr.drew := hkp.drew
            have cm4 : wr.drew.cell? ⟨s.db, mm, none⟩ = some (.int .i64 dm) := cm
            generalize wr.drew = W4 at H4 HK4 cm4 ⊢
            clear w3 w4 w5 w6 c0 c5 c6 f6 lw lc ld lg cm fm hwk hkp nj
            obtain ⟨w3, w4, w5, w6, c0, c5, c6, f6, lw, lc, ld, lg⟩ := H4.cells
            refine wp_quiet_tail 13 (by kernel_rfl) (by kernel_rfl) ?_
            simp only [List.take_succ_cons, List.take_zero, List.drop_succ_cons, List.drop_zero]
            repeat (go_big_quiet_step (fail))
            refine wpQuiet_nil ?_
            go_wp2_with (first | (go_at_call 26; (with_reducible refine (need_no s.cb s.f k _ _ (by simpa using c5) (by simpa using c6)).mono ?_); rintro e w' ⟨rfl, q, rfl⟩))
            exact ⟨rfl, by rw [HE.out]; rfl, (HK3.trans HK4 (fun _ _ x => x)).drewN _, by rw [HE.out]; exact H4.kp ((Kp.refl _ _).drewN _)⟩
      · have HE : Hid (R = (some 11, D')) := by
          unfold Hid; rw [HS2.out]; unfold stepS; rw [if_pos (by rw [hwk.lD]; exact hin)]
        rcases (show m < 0 ∨ (0 ≤ m ∧ (s.code.length : Int) ≤ m) by omega) with g | ⟨g, g'⟩
        · have d2 : decide (0 ≤ m) = false := by simp; omega
          clear hin HS2
          go_wp2
          refine wp_quiet_tail 16 (by kernel_rfl) (by kernel_rfl) ?_
          simp only [List.take_succ_cons, List.take_zero, List.drop_succ_cons, List.drop_zero]
          repeat (go_big_quiet_step (fail))
          refine wpQuiet_nil ?_
          go_wp2_with (first | (go_at_call 26; (with_reducible refine (need_no s.cb s.f k _ _ (by simpa using c5) (by simpa using c6)).mono ?_); rintro e w' ⟨rfl, q, rfl⟩))
          exact ⟨rfl, by rw [HE.out]; rfl, (HK3.trans hkp (fun _ _ x => x)).drewN _, by rw [HE.out]; exact hwk.kp ((Kp.refl _ _).drewN _)⟩
        · have d2 : decide (0 ≤ m) = true := by simp; omega
          have d3 : decide (m < (s.code.length : Int)) = false := by simp; omega
          clear hin HS2
          rw [hxa] at w3
          go_wp2
          refine wp_quiet_tail 16 (by kernel_rfl) (by kernel_rfl) ?_
          simp only [List.take_succ_cons, List.take_zero, List.drop_succ_cons, List.drop_zero]
          repeat (go_big_quiet_step (fail))
          refine wpQuiet_nil ?_
          go_wp2_with (first | (go_at_call 26; (with_reducible refine (need_no s.cb s.f k _ _ (by simpa using c5) (by simpa using c6)).mono ?_); rintro e w' ⟨rfl, q, rfl⟩))
          exact ⟨rfl, by rw [HE.out]; rfl, (HK3.trans hkp (fun _ _ x => x)).drewN _, by rw [HE.out]; exact hwk.kp ((Kp.refl _ _).drewN _)⟩
    · have HE : Hid (R = (none, D')) := by
        unfold Hid; rw [HR.out, List.drop_eq_nil_of_le (by omega)]; rfl
      go_wp2
      go_end0
      exact ⟨by rw [HE.out]; rfl, HK3.trans hkp (fun _ _ x => x), by rw [HE.out]; exact hwk⟩
end Go.Proofs.YtgjdlloiiedpmaaLiftDoor
