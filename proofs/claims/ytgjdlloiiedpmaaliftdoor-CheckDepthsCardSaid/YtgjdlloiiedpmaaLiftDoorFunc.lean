/- '(*checker).function': a function is asked. No condition. -/
import Derived.Test.YtgjdlloiiedpmaaLiftDoorAll
namespace Go.Proofs.YtgjdlloiiedpmaaLiftDoor
open Go.RowKit

def inssS (L : Nat) (locals : Int) (C : Nat) : Nat → List SIns → Option (Int × Int)
  | _, [] => none
  | k, x :: r => match insS L locals C x.op x.n with
    | some e => some ((k : Int), e)
    | none => inssS L locals C (k + 1) r
def functionS (fs : List SFunc) (k : Nat) (F : SFunc) : Option (Int × Int) :=
  if namedS fs k = false then some (0, 6)
  else if ¬ (0 ≤ F.args ∧ F.args ≤ 8) then some (0, 15)
  else if ¬ (F.args ≤ F.locals ∧ F.locals ≤ 16) then some (0, 13)
  else if ¬ (0 < F.code.length ∧ F.code.length ≤ 256) then some (0, 3)
  else match inssS fs.length F.locals F.code.length 0 F.code with
    | some r => some r
    | none => (walkS fs F.code).1

/-- Nothing, or it gives up at that place with that error. -/
def GivesAt (f : Int) (r : Option (Int × Int)) (e : Ending) : Prop :=
  match r with
  | none => e = .returned (.tuple #[])
  | some (i, x) => e = gaveUp f i x

/-- The function's box and the checker, in memory. -/
structure FnW (B cb fb : Nat) (fao : Option Addr) (fcap : Nat) (av : Value) (J : SJob) (f i : Int) (nm : ByteArray) (fa fl : Int) (cao : Option Addr) (ccap : Nat) (code : List SIns) (w : World) : Prop where
  hc : w.heap[cb]? = some (.cells (ckCells (.slice fao J.funcs.length fcap) av J f i) 49 (0, 0))
  hb : w.heap[fb]? = some (.cells #[.string nm, .int .i64 fa, .int .i64 fl, .slice cao code.length ccap] 33 (0, 0))
  fu : FuncsAt B w (.slice fao J.funcs.length fcap) J.funcs
  co : CodeAt B w (.slice cao code.length ccap) code
  hB : B ≤ w.heap.size
section
variable {B cb fb : Nat} {fao : Option Addr} {fcap : Nat} {av : Value} {J : SJob} {f i : Int} {nm : ByteArray} {fa fl : Int} {cao : Option Addr} {ccap : Nat} {code : List SIns} {w w' : World}
theorem FnW.kp (h : FnW B cb fb fao fcap av J f i nm fa fl cao ccap code w) (k : Kp No w w') : FnW B cb fb fao fcap av J f i nm fa fl cao ccap code w' :=
  ⟨k.blk h.hc (fun x => x), k.blk h.hb (fun x => x), h.fu.to (k.below h.hB (fun _ x => x.elim)), h.co.to (k.below h.hB (fun _ x => x.elim)), Nat.le_trans h.hB k.size⟩
theorem FnW.setI (h : FnW B cb fb fao fcap av J f i nm fa fl cao ccap code w) (x : Int) (hne : fb ≠ cb) (hb : B ≤ cb) : FnW B cb fb fao fcap av J f x nm fa fl cao ccap code (w.setCell ⟨cb, 6, none⟩ (.int .i64 x)) :=
  ⟨by rw [blk_setCell h.hc 6 (.int .i64 x)]; rfl, blk_other h.hb _ hne _, h.fu.to (below_set hb _), h.co.to (below_set hb _), by simpa [World.setCell] using h.hB⟩
end

def FnE (cb : Nat) (ck : Int → Array Value) (f : Int) (r : Option (Int × Int)) (w : World) (e : Ending) (w' : World) : Prop :=
  GivesAt f r e ∧ Kp (fun b => b = cb) w w' ∧ (r = none → w'.heap[cb]? = some (.cells (ck 0) 49 (0, 0)))

set_option maxRecDepth 100000 in
set_option maxHeartbeats 4000000 in
theorem function_any (B cb : Nat) (fao : Option Addr) (fcap : Nat) (av : Value) (J : SJob) (f : Int) (k : Nat) (F : SFunc) (w : World) (hk : J.funcs[k]? = some F)
    (hc : w.heap[cb]? = some (.cells (ckCells (.slice fao J.funcs.length fcap) av J f 0) 49 (0, 0))) (hfu : FuncsAt B w (.slice fao J.funcs.length fcap) J.funcs)
    (hB : B ≤ w.heap.size) (hbc : B ≤ cb) (hfew : J.funcs.length ≤ 9223372036854775807) :
    Calls Tryl.prog 20 #[.pointer (some ⟨cb, 0, none⟩), .int .i64 k] w
      (FnE cb (ckCells (.slice fao J.funcs.length fcap) av J f) f (functionS J.funcs k F) w) := by
  obtain ⟨nm, fa, fl, code⟩ := F
  obtain ⟨R, hR⟩ : ∃ R, R = functionS J.funcs k ⟨nm, fa, fl, code⟩ := ⟨_, rfl⟩
  rw [← hR]
  have HR0 := Lib.hid hR
  clear hR
  have hkl : k < J.funcs.length := by
    rcases Nat.lt_or_ge k J.funcs.length with g | g
    · exact g
    · rw [List.getElem?_eq_none g] at hk; cases hk
  obtain ⟨ao, cap, hv, f1, f2, f3⟩ := hfu.ex
  cases hv
  obtain ⟨fbk, fo, hfb, rfl, fc⟩ := f3 (by omega)
  obtain ⟨hns, x0, x1, x2, cv, x3, hco⟩ := fc k _ hk
  obtain ⟨cao, ccap, rfl, k1, k2, k3⟩ := hco.ex
  simp only at x0 x1 x2 x3 hco k1 k2 k3
  clear fc f3 k3
  have c0 := cell_blk hc 0 (v := .slice (some ⟨fbk, fo, none⟩) J.funcs.length fcap) rfl
  have lc := lt_of_block hc
  have hkl' : (k : Int) < J.funcs.length := by omega
  have hk0 : (0 : Int) ≤ k := by omega
  have HK := Lib.hid hk
  clear hk
  have H0 : FnW B cb w.heap.size (some ⟨fbk, fo, none⟩) fcap av J f 0 nm fa fl cao ccap code (w.alloc (.cells #[.string nm, .int .i64 fa, .int .i64 fl, .slice cao code.length ccap] 33)) :=
    ⟨blk_alloc hc _, blk_new _ _ _ rfl, hfu.to ((kp_al w _).below hB (fun _ x => x.elim)), hco.to ((kp_al w _).below hB (fun _ x => x.elim)), Nat.le_trans hB (kp_al w _).size⟩
  have K0 : Kp (fun b => b = cb) w (w.alloc (.cells #[.string nm, .int .i64 fa, .int .i64 fl, .slice cao code.length ccap] 33)) := (Kp.refl _ _).alloc _
  have PN := named_fn B cb k J.funcs _ _ hkl (cell_blk H0.hc 0 rfl) H0.hB H0.fu
  cases hnm : namedS J.funcs k with
  | false =>
    rw [hnm] at PN
    have HE : Hid (R = some (0, 6)) := by unfold Hid; rw [HR0.out]; unfold functionS; rw [if_pos hnm]
    clear HR0
    go_enter Tryl.func20, Tryl.ntmps20
    go_wp2_with (first | (go_at_call 27; (with_reducible refine PN.mono ?_); rintro e w' ⟨rfl, hkN⟩; have H := H0.kp hkN; have q5 := cell_blk H.hc 5 (v := .int .i64 f) rfl; have q6 := cell_blk H.hc 6 (v := .int .i64 0) rfl; have m0 := cell_blk H.hb 0 (v := .string nm) rfl; have m1 := cell_blk H.hb 1 (v := .int .i64 fa) rfl; have m2 := cell_blk H.hb 2 (v := .int .i64 fl) rfl; have m3 := cell_blk H.hb 3 (v := .slice cao code.length ccap) rfl) | (go_at_call 26; (with_reducible refine (need_no cb f 0 _ _ (by simpa using q5) (by simpa using q6)).mono ?_); rintro e w' ⟨rfl, q, rfl⟩) | (go_at_call 26; (with_reducible refine (need_yes _ _ _).mono ?_); rintro e w' ⟨rfl, rfl⟩))
    exact ⟨rfl, by rw [HE.out]; rfl, ((K0.trans hkN (fun _ _ h => h.elim)).drewN _), by rw [HE.out]; intro h; cases h⟩
  | true =>
  rw [hnm] at PN
  by_cases ha : 0 ≤ fa ∧ fa ≤ 8
  rotate_left
  · have HE : Hid (R = some (0, 15)) := by unfold Hid; rw [HR0.out]; unfold functionS; rw [if_neg (by simp [hnm]), if_pos ha]
    rcases (show fa < 0 ∨ (0 ≤ fa ∧ 8 < fa) by omega) with g | ⟨g, g'⟩
    · have e1 : decide (0 ≤ fa) = false := by simp; omega
      clear ha
      clear HR0
      go_enter Tryl.func20, Tryl.ntmps20
      go_wp2_with (first | (go_at_call 27; (with_reducible refine PN.mono ?_); rintro e w' ⟨rfl, hkN⟩; have H := H0.kp hkN; have q5 := cell_blk H.hc 5 (v := .int .i64 f) rfl; have q6 := cell_blk H.hc 6 (v := .int .i64 0) rfl; have m0 := cell_blk H.hb 0 (v := .string nm) rfl; have m1 := cell_blk H.hb 1 (v := .int .i64 fa) rfl; have m2 := cell_blk H.hb 2 (v := .int .i64 fl) rfl; have m3 := cell_blk H.hb 3 (v := .slice cao code.length ccap) rfl) | (go_at_call 26; (with_reducible refine (need_no cb f 0 _ _ (by simpa using q5) (by simpa using q6)).mono ?_); rintro e w' ⟨rfl, q, rfl⟩) | (go_at_call 26; (with_reducible refine (need_yes _ _ _).mono ?_); rintro e w' ⟨rfl, rfl⟩))
      exact ⟨rfl, by rw [HE.out]; rfl, ((K0.trans hkN (fun _ _ h => h.elim)).drewN _), by rw [HE.out]; intro h; cases h⟩
    · have e1 : decide (0 ≤ fa) = true := by simp; omega
      have e2 : decide (fa ≤ 8) = false := by simp; omega
      clear ha
      clear HR0
      go_enter Tryl.func20, Tryl.ntmps20
      go_wp2_with (first | (go_at_call 27; (with_reducible refine PN.mono ?_); rintro e w' ⟨rfl, hkN⟩; have H := H0.kp hkN; have q5 := cell_blk H.hc 5 (v := .int .i64 f) rfl; have q6 := cell_blk H.hc 6 (v := .int .i64 0) rfl; have m0 := cell_blk H.hb 0 (v := .string nm) rfl; have m1 := cell_blk H.hb 1 (v := .int .i64 fa) rfl; have m2 := cell_blk H.hb 2 (v := .int .i64 fl) rfl; have m3 := cell_blk H.hb 3 (v := .slice cao code.length ccap) rfl) | (go_at_call 26; (with_reducible refine (need_no cb f 0 _ _ (by simpa using q5) (by simpa using q6)).mono ?_); rintro e w' ⟨rfl, q, rfl⟩) | (go_at_call 26; (with_reducible refine (need_yes _ _ _).mono ?_); rintro e w' ⟨rfl, rfl⟩))
      exact ⟨rfl, by rw [HE.out]; rfl, ((K0.trans hkN (fun _ _ h => h.elim)).drewN _), by rw [HE.out]; intro h; cases h⟩
  have e1 : decide (0 ≤ fa) = true := by simp; omega
  have e2 : decide (fa ≤ 8) = true := by simp; omega
  by_cases hl : fa ≤ fl ∧ fl ≤ 16
  rotate_left
  · have HE : Hid (R = some (0, 13)) := by unfold Hid; rw [HR0.out]; unfold functionS; rw [if_neg (by simp [hnm]), if_neg (by simpa using ha), if_pos hl]
    rcases (show fl < fa ∨ (fa ≤ fl ∧ 16 < fl) by omega) with g | ⟨g, g'⟩
    · have e3 : decide (fa ≤ fl) = false := by simp; omega
      clear ha hl
      clear HR0
      go_enter Tryl.func20, Tryl.ntmps20
      go_wp2_with (first | (go_at_call 27; (with_reducible refine PN.mono ?_); rintro e w' ⟨rfl, hkN⟩; have H := H0.kp hkN; have q5 := cell_blk H.hc 5 (v := .int .i64 f) rfl; have q6 := cell_blk H.hc 6 (v := .int .i64 0) rfl; have m0 := cell_blk H.hb 0 (v := .string nm) rfl; have m1 := cell_blk H.hb 1 (v := .int .i64 fa) rfl; have m2 := cell_blk H.hb 2 (v := .int .i64 fl) rfl; have m3 := cell_blk H.hb 3 (v := .slice cao code.length ccap) rfl) | (go_at_call 26; (with_reducible refine (need_no cb f 0 _ _ (by simpa using q5) (by simpa using q6)).mono ?_); rintro e w' ⟨rfl, q, rfl⟩) | (go_at_call 26; (with_reducible refine (need_yes _ _ _).mono ?_); rintro e w' ⟨rfl, rfl⟩))
      exact ⟨rfl, by rw [HE.out]; rfl, ((K0.trans hkN (fun _ _ h => h.elim)).drewN _), by rw [HE.out]; intro h; cases h⟩
    · have e3 : decide (fa ≤ fl) = true := by simp; omega
      have e4 : decide (fl ≤ 16) = false := by simp; omega
      clear ha hl
      clear HR0
      go_enter Tryl.func20, Tryl.ntmps20
      go_wp2_with (first | (go_at_call 27; (with_reducible refine PN.mono ?_); rintro e w' ⟨rfl, hkN⟩; have H := H0.kp hkN; have q5 := cell_blk H.hc 5 (v := .int .i64 f) rfl; have q6 := cell_blk H.hc 6 (v := .int .i64 0) rfl; have m0 := cell_blk H.hb 0 (v := .string nm) rfl; have m1 := cell_blk H.hb 1 (v := .int .i64 fa) rfl; have m2 := cell_blk H.hb 2 (v := .int .i64 fl) rfl; have m3 := cell_blk H.hb 3 (v := .slice cao code.length ccap) rfl) | (go_at_call 26; (with_reducible refine (need_no cb f 0 _ _ (by simpa using q5) (by simpa using q6)).mono ?_); rintro e w' ⟨rfl, q, rfl⟩) | (go_at_call 26; (with_reducible refine (need_yes _ _ _).mono ?_); rintro e w' ⟨rfl, rfl⟩))
      exact ⟨rfl, by rw [HE.out]; rfl, ((K0.trans hkN (fun _ _ h => h.elim)).drewN _), by rw [HE.out]; intro h; cases h⟩
  have e3 : decide (fa ≤ fl) = true := by simp; omega
  have e4 : decide (fl ≤ 16) = true := by simp; omega
  by_cases hcl : 0 < code.length ∧ code.length ≤ 256
  rotate_left
  · have HE : Hid (R = some (0, 3)) := by unfold Hid; rw [HR0.out]; unfold functionS; rw [if_neg (by simp [hnm]), if_neg (by simpa using ha), if_neg (by simpa using hl), if_pos hcl]
    rcases (show code.length = 0 ∨ (0 < code.length ∧ 256 < code.length) by omega) with g | ⟨g, g'⟩
    · have e5 : decide (0 < code.length) = false := decide_eq_false (by omega)
      clear ha hl hcl g
      clear HR0
      go_enter Tryl.func20, Tryl.ntmps20
      go_wp2_with (first | (go_at_call 27; (with_reducible refine PN.mono ?_); rintro e w' ⟨rfl, hkN⟩; have H := H0.kp hkN; have q5 := cell_blk H.hc 5 (v := .int .i64 f) rfl; have q6 := cell_blk H.hc 6 (v := .int .i64 0) rfl; have m0 := cell_blk H.hb 0 (v := .string nm) rfl; have m1 := cell_blk H.hb 1 (v := .int .i64 fa) rfl; have m2 := cell_blk H.hb 2 (v := .int .i64 fl) rfl; have m3 := cell_blk H.hb 3 (v := .slice cao code.length ccap) rfl) | (go_at_call 26; (with_reducible refine (need_no cb f 0 _ _ (by simpa using q5) (by simpa using q6)).mono ?_); rintro e w' ⟨rfl, q, rfl⟩) | (go_at_call 26; (with_reducible refine (need_yes _ _ _).mono ?_); rintro e w' ⟨rfl, rfl⟩))
      exact ⟨rfl, by rw [HE.out]; rfl, ((K0.trans hkN (fun _ _ h => h.elim)).drewN _), by rw [HE.out]; intro h; cases h⟩
    · have e5 : decide (0 < code.length) = true := by simp; omega
      have e6 : decide ((code.length : Int) ≤ 256) = false := by simp; omega
      clear ha hl hcl
      clear HR0
      go_enter Tryl.func20, Tryl.ntmps20
      go_wp2_with (first | (go_at_call 27; (with_reducible refine PN.mono ?_); rintro e w' ⟨rfl, hkN⟩; have H := H0.kp hkN; have q5 := cell_blk H.hc 5 (v := .int .i64 f) rfl; have q6 := cell_blk H.hc 6 (v := .int .i64 0) rfl; have m0 := cell_blk H.hb 0 (v := .string nm) rfl; have m1 := cell_blk H.hb 1 (v := .int .i64 fa) rfl; have m2 := cell_blk H.hb 2 (v := .int .i64 fl) rfl; have m3 := cell_blk H.hb 3 (v := .slice cao code.length ccap) rfl) | (go_at_call 26; (with_reducible refine (need_no cb f 0 _ _ (by simpa using q5) (by simpa using q6)).mono ?_); rintro e w' ⟨rfl, q, rfl⟩) | (go_at_call 26; (with_reducible refine (need_yes _ _ _).mono ?_); rintro e w' ⟨rfl, rfl⟩))
      exact ⟨rfl, by rw [HE.out]; rfl, ((K0.trans hkN (fun _ _ h => h.elim)).drewN _), by rw [HE.out]; intro h; cases h⟩
  have e5 : decide (0 < code.length) = true := by simp; omega
  have e6 : decide ((code.length : Int) ≤ 256) = true := by simp; omega
  have HE : Hid (R = match inssS J.funcs.length fl code.length 0 code with | some r => some r | none => (walkS J.funcs code).1) := by
    unfold Hid; rw [HR0.out]; unfold functionS; rw [if_neg (by simp [hnm]), if_neg (by simpa using ha), if_neg (by simpa using hl), if_neg (by simpa using hcl)]
  have hcl1 := hcl.1
  have hcl2 := hcl.2
  clear ha hl hcl HR0
  go_enter Tryl.func20, Tryl.ntmps20
  go_wp2_with (first | (go_at_call 27; (with_reducible refine PN.mono ?_); rintro e w' ⟨rfl, hkN⟩; have H := H0.kp hkN; have q5 := cell_blk H.hc 5 (v := .int .i64 f) rfl; have q6 := cell_blk H.hc 6 (v := .int .i64 0) rfl; have m0 := cell_blk H.hb 0 (v := .string nm) rfl; have m1 := cell_blk H.hb 1 (v := .int .i64 fa) rfl; have m2 := cell_blk H.hb 2 (v := .int .i64 fl) rfl; have m3 := cell_blk H.hb 3 (v := .slice cao code.length ccap) rfl) | (go_at_call 26; (with_reducible refine (need_no cb f 0 _ _ (by simpa using q5) (by simpa using q6)).mono ?_); rintro e w' ⟨rfl, q, rfl⟩) | (go_at_call 26; (with_reducible refine (need_yes _ _ _).mono ?_); rintro e w' ⟨rfl, rfl⟩))
  have KN := (K0.trans hkN (fun _ _ h => h.elim))
  obtain ⟨fb, hfb'⟩ : ∃ fb, fb = w.heap.size := ⟨_, rfl⟩
  rw [← hfb'] at H ⊢
  have hfc : fb ≠ cb := by omega
  have HFB := Lib.hid hfb'
  clear PN H0 K0 hkN m0 m1 m2 m3 q5 q6 x0 x1 x2 x3 hfb'
  go_loopw [58] (fun v wr => ∃ (j : Nat) (i : Int), j ≤ code.length ∧ v = .int .i64 j ∧ FnW B cb fb (some ⟨fbk, fo, none⟩) fcap av J f i nm fa fl cao ccap code wr ∧ Kp (fun b => b = cb) w wr ∧ R = (match inssS J.funcs.length fl code.length j (code.drop j) with | some r => some r | none => (walkS J.funcs code).1)) (fun v _ => code.length - (intOf v).toNat)
  case atStart => exact ⟨0, 0, by omega, rfl, H, KN, HE.out⟩
  case round =>
    obtain ⟨j, i, hj, rfl, H, K, hR⟩ := hrel
    have HR := Lib.hid hR
    clear hR HE KN
    by_cases hlt : j < code.length
    · obtain ⟨x, hx⟩ : ∃ x, code[j] = x := ⟨_, rfl⟩
      have HS : Hid (R = match (match insS J.funcs.length fl code.length x.op x.n with | some e => some ((j : Int), e) | none => inssS J.funcs.length fl code.length (j + 1) (code.drop (j + 1))) with | some r => some r | none => (walkS J.funcs code).1) := by
        unfold Hid; rw [HR.out, List.drop_eq_getElem_cons hlt, hx]; rfl
      obtain ⟨ao, cap', hv, k1', k2', k3⟩ := H.co.ex
      cases hv
      obtain ⟨kb, ko, hkb, rfl, kc⟩ := k3 (by omega)
      obtain ⟨y0, y1⟩ := kc j x (by rw [List.getElem?_eq_getElem hlt, hx])
      have lk := World.block_lt_of_cell? _ _ y0
      simp only at lk
      have lc' := lt_of_block H.hc
      have lf' := lt_of_block H.hb
      have hltI : (j : Int) < code.length := by omega
      have hj0 : (0 : Int) ≤ j := by omega
      obtain ⟨W2, hW2⟩ : ∃ W2, W2 = (wr.setCell ⟨cb, 6, none⟩ (.int .i64 j)).alloc (.cells #[.int .i64 x.op, .int .i64 x.n] 29) := ⟨_, rfl⟩
      have H2 : FnW B cb fb (some ⟨fbk, fo, none⟩) fcap av J f j nm fa fl (some ⟨kb, ko, none⟩) ccap code W2 := hW2 ▸ ((H.setI j hfc hbc).kp (kp_al _ _))
      have K2 : Kp (fun b => b = cb) w W2 := hW2 ▸ ((K.setCell _ _ (fun _ => rfl)).alloc _)
      have hbx : W2.heap[wr.heap.size]? = some (.cells #[.int .i64 x.op, .int .i64 x.n] 29 (0, 0)) := hW2 ▸ (blk_new (wr.setCell ⟨cb, 6, none⟩ (.int .i64 j)) _ _ (by simp [World.setCell]))
      have z6 := free_blk H.hc 6
      have s6 := cell_blk H.hc 6 (v := .int .i64 i) rfl
      have m0 := cell_blk H2.hb 0 (v := .string nm) rfl
      have m1 := cell_blk H2.hb 1 (v := .int .i64 fa) rfl
      have m2 := cell_blk H2.hb 2 (v := .int .i64 fl) rfl
      have m3 := cell_blk H2.hb 3 (v := .slice (some ⟨kb, ko, none⟩) code.length ccap) rfl
      have n0 := cell_blk hbx 0 (v := .int .i64 x.op) rfl
      have n1 := cell_blk hbx 1 (v := .int .i64 x.n) rfl
      have PI := ins_any cb J.funcs.length code.length nm fa fl x.op x.n f j (some ⟨fbk, fo, none⟩) (some ⟨kb, ko, none⟩) fcap ccap W2 (cell_blk H2.hc 0 rfl) (cell_blk H2.hc 5 rfl) (cell_blk H2.hc 6 rfl)
      obtain ⟨r, hr⟩ : ∃ r, insS J.funcs.length fl code.length x.op x.n = r := ⟨_, rfl⟩
      rw [hr] at PI
      rw [hr] at HS
      rw [hW2] at m0 m1 m2 m3 n0 n1 PI
      clear kc k3 HR hr
      cases r with
      | some e0 =>
        have HE : Hid (R = some ((j : Int), e0)) := HS
        clear HS
        unfold InsE at PI
        simp only [Gives, gaveUp] at PI
        go_wp2_with (first | (go_at_call 28; (with_reducible refine PI.mono ?_); rintro e w' ⟨rfl, hk'⟩))
        exact ⟨rfl, by rw [HE.out]; rfl, K2.trans (hW2 ▸ hk') (fun _ _ h => h.elim), by rw [HE.out]; intro h; cases h⟩
      | none =>
        have HE : Hid (R = match inssS J.funcs.length fl code.length (j + 1) (code.drop (j + 1)) with | some r => some r | none => (walkS J.funcs code).1) := HS
        clear HS
        go_wp2_with (first | (go_at_call 28; (with_reducible refine PI.mono ?_); rintro e w' ⟨rfl, hk'⟩))
        go_roundw
        case rel => exact ⟨j + 1, j, by omega, by go_num, H2.kp (hW2 ▸ hk'), K2.trans (hW2 ▸ hk') (fun _ _ h => h.elim), HE.out⟩
        case measure => simp [intOf]; omega
    · have HE : Hid (R = (walkS J.funcs code).1) := by
        unfold Hid; rw [HR.out, List.drop_eq_nil_of_le (by omega)]; rfl
      have lc' := lt_of_block H.hc
      have lf' := lt_of_block H.hb
      have H2 := H.setI 0 hfc hbc
      have K2 : Kp (fun b => b = cb) w (wr.setCell ⟨cb, 6, none⟩ (.int .i64 0)) := K.setCell _ _ (fun _ => rfl)
      have z6 := free_blk H.hc 6
      have s6 := cell_blk H.hc 6 (v := .int .i64 i) rfl
      have sz2 : (wr.setCell ⟨cb, 6, none⟩ (.int .i64 0)).heap.size = wr.heap.size := by simp [World.setCell]
      have m0 := cell_blk H2.hb 0 (v := .string nm) rfl
      have m1 := cell_blk H2.hb 1 (v := .int .i64 fa) rfl
      have m2 := cell_blk H2.hb 2 (v := .int .i64 fl) rfl
      have m3 := cell_blk H2.hb 3 (v := .slice cao code.length ccap) rfl
      clear HR
      obtain ⟨W3, hW3⟩ : ∃ W3, W3 = (wr.setCell ⟨cb, 6, none⟩ (.int .i64 0)).alloc (.cells #[.string nm, .int .i64 fa, .int .i64 fl, .slice cao code.length ccap, .pointer (some ⟨cb, 0, none⟩), .slice none 0 0, .slice none 0 0] 56) := ⟨_, rfl⟩
      have H3 : FnW B cb fb (some ⟨fbk, fo, none⟩) fcap av J f 0 nm fa fl cao ccap code W3 := hW3 ▸ (H2.kp (kp_al _ _))
      have K3 : Kp (fun b => b = cb) w W3 := hW3 ▸ (K2.alloc _)
      have hwb : W3.heap[wr.heap.size]? = some (.cells (wkCells nm fa fl (.slice cao code.length ccap) cb (.slice none 0 0) (.slice none 0 0)) 56 (0, 0)) := hW3 ▸ (blk_new (wr.setCell ⟨cb, 6, none⟩ (.int .i64 0)) _ _ (by simp [World.setCell]))
      have hBr := H.hB
      have PA := all_any B wr.heap.size cb nm fa fl cao ccap (some ⟨fbk, fo, none⟩) fcap av J f 0 code W3 hwb H3.hc H3.fu H3.co hcl2 hcl1 (by omega) hBr hbc hfew
      unfold AllE at PA
      obtain ⟨rr, hrr⟩ : ∃ rr, (walkS J.funcs code).1 = rr := ⟨_, rfl⟩
      have HE : Hid (R = rr) := by unfold Hid; rw [← hrr]; exact HE.out
      rw [hrr] at PA
      have hKf : ∀ W', Kp (fun b => b = wr.heap.size ∨ b = cb) W3 W' → Kp (fun b => b = cb) w W' := fun W' h => K3.trans h (fun i hi h => by
        have := K.size
        rcases h with h | h
        · omega
        · exact h)
      have HKF := Lib.hid hKf
      rw [hW3] at PA HKF
      clear hrr H2 K2 H3 K3 hwb hW3 hKf
      cases rr with
      | some p =>
        obtain ⟨pi, pe⟩ := p
        simp only [gaveUp] at PA
        go_wp2_with (first | (go_at_call 21; (with_reducible refine PA.mono ?_); rintro e w' ⟨rfl, hk', _⟩))
        exact ⟨rfl, by rw [HE.out]; rfl, HKF.out _ hk', by rw [HE.out]; intro h; cases h⟩
      | none =>
        go_wp2_with (first | (go_at_call 21; (with_reducible refine PA.mono ?_); rintro e w' ⟨rfl, hk', ⟨i', hc'⟩, _⟩; have z7 := free_blk hc' 6; have s7 := cell_blk hc' 6 (v := .int .i64 i') rfl))
        go_end0
        exact ⟨by rw [HE.out]; rfl, (HKF.out _ hk').setCell _ _ (fun _ => rfl), fun _ => by rw [blk_setCell hc' 6 (.int .i64 0)]; rfl⟩
end Go.Proofs.YtgjdlloiiedpmaaLiftDoor
