/- 'Check$1': all that a check asks. No condition. -/
import Derived.Test.YtgjdlloiiedpmaaLiftDoorFunc
namespace Go.Proofs.YtgjdlloiiedpmaaLiftDoor
open Go.RowKit

def funcsS (fs : List SFunc) : Nat → List SFunc → Option (Int × Int × Int)
  | _, [] => none
  | k, F :: r => match functionS fs k F with
    | some (i, e) => some ((k : Int), i, e)
    | none => funcsS fs (k + 1) r
def checkS (J : SJob) : Option (Int × Int × Int) :=
  match headS J with
  | some e => some (0, 0, e)
  | none => funcsS J.funcs 0 J.funcs

def GivesF (r : Option (Int × Int × Int)) (e : Ending) : Prop :=
  match r with
  | none => e = .returned (.tuple #[])
  | some (f, i, x) => e = gaveUp f i x

/-- What the closure sees. -/
structure DoW (B cb pb jb : Nat) (fao : Option Addr) (fcap : Nat) (av : Value) (J : SJob) (f i : Int) (w : World) : Prop where
  hc : w.heap[cb]? = some (.cells (ckCells (.slice fao J.funcs.length fcap) av J f i) 49 (0, 0))
  hp : w.heap[pb]? = some (.cells #[.pointer (some ⟨cb, 0, none⟩)] 47 (0, 0))
  hj : w.heap[jb]? = some (.cells #[.slice fao J.funcs.length fcap, .int .i64 J.main, av, .int .i64 J.fuel, .int .i64 J.tasks] 26 (0, 0))
  fu : FuncsAt B w (.slice fao J.funcs.length fcap) J.funcs
  ar : IntsAt B w av J.args
  hB : B ≤ w.heap.size
section
variable {B cb pb jb : Nat} {fao : Option Addr} {fcap : Nat} {av : Value} {J : SJob} {f i : Int} {w w' : World}
theorem DoW.kp (h : DoW B cb pb jb fao fcap av J f i w) (k : Kp No w w') : DoW B cb pb jb fao fcap av J f i w' :=
  ⟨k.blk h.hc (fun x => x), k.blk h.hp (fun x => x), k.blk h.hj (fun x => x), h.fu.to (k.below h.hB (fun _ x => x.elim)), h.ar.to (k.below h.hB (fun _ x => x.elim)), Nat.le_trans h.hB k.size⟩
theorem DoW.kpc (h : DoW B cb pb jb fao fcap av J f i w) (k : Kp (fun b => b = cb) w w') (hb : B ≤ cb) (hp : pb ≠ cb) (hj : jb ≠ cb) {f' i' : Int} (hc : w'.heap[cb]? = some (.cells (ckCells (.slice fao J.funcs.length fcap) av J f' i') 49 (0, 0))) : DoW B cb pb jb fao fcap av J f' i' w' :=
  ⟨hc, k.blk h.hp hp, k.blk h.hj hj, h.fu.to (k.below h.hB (fun _ x => by rw [x]; exact hb)), h.ar.to (k.below h.hB (fun _ x => by rw [x]; exact hb)), Nat.le_trans h.hB k.size⟩
theorem DoW.setF (h : DoW B cb pb jb fao fcap av J f i w) (x : Int) (hb : B ≤ cb) (hp : pb ≠ cb) (hj : jb ≠ cb) : DoW B cb pb jb fao fcap av J x i (w.setCell ⟨cb, 5, none⟩ (.int .i64 x)) :=
  h.kpc ((Kp.refl _ _).setCell _ _ (fun _ => rfl)) hb hp hj (by rw [blk_setCell h.hc 5 (.int .i64 x)]; rfl)
end

set_option maxRecDepth 100000 in
set_option maxHeartbeats 4000000 in
theorem do_any (B cb pb jb : Nat) (fao : Option Addr) (fcap : Nat) (av : Value) (J : SJob) (w : World) (H : DoW B cb pb jb fao fcap av J 0 0 w) (hbc : B ≤ cb) (hpc : pb ≠ cb) (hjc : jb ≠ cb) :
    Calls Tryl.prog 18 #[.pointer (some ⟨pb, 0, none⟩), .pointer (some ⟨jb, 0, none⟩)] w fun e w' => GivesF (checkS J) e ∧ Kp (fun b => b = cb) w w' := by
  obtain ⟨R, hR⟩ : ∃ R, R = checkS J := ⟨_, rfl⟩
  rw [← hR]
  have HR0 := Lib.hid hR
  clear hR
  have PH := head_any B cb J _ _ 0 0 w H.hc H.fu H.ar
  have p0 := cell_blk H.hp 0 (v := .pointer (some ⟨cb, 0, none⟩)) rfl
  have lp := lt_of_block H.hp
  have lj := lt_of_block H.hj
  have lc := lt_of_block H.hc
  cases hh : headS J with
  | some e0 =>
    rw [hh] at PH
    have HE : Hid (R = some (0, 0, e0)) := by unfold Hid; rw [HR0.out]; unfold checkS; rw [hh]
    simp only [Gives, gaveUp] at PH
    clear hh HR0
    go_enter Tryl.func18, Tryl.ntmps18
    go_wp2_with (first | (go_at_call 19; (with_reducible refine PH.mono ?_); rintro e w' ⟨rfl, q, rfl⟩))
    exact ⟨rfl, by rw [HE.out]; rfl, (Kp.refl _ _).drewN _⟩
  | none =>
    rw [hh] at PH
    have HE : Hid (R = funcsS J.funcs 0 J.funcs) := by unfold Hid; rw [HR0.out]; unfold checkS; rw [hh]
    have hfew : J.funcs.length ≤ 32 := by
      unfold headS at hh
      split at hh
      · cases hh
      · split at hh
        · cases hh
        · omega
    clear hh HR0
    go_enter Tryl.func18, Tryl.ntmps18
    go_wp2_with (first | (go_at_call 19; (with_reducible refine PH.mono ?_); rintro e w' ⟨rfl, q, rfl⟩; have H1 := H.kp ((Kp.refl No w).drewN q); have j0 := cell_blk H1.hj 0 (v := .slice fao J.funcs.length fcap) rfl))
    have K1 : Kp (fun b => b = cb) w (w.drewN q) := (Kp.refl _ _).drewN _
    generalize w.drewN q = W at H1 K1 j0 ⊢
    clear PH p0 H j0
    go_loopw [8] (fun v wr => ∃ (j : Nat) (f : Int), j ≤ J.funcs.length ∧ v = .int .i64 j ∧ DoW B cb pb jb fao fcap av J f 0 wr ∧ Kp (fun b => b = cb) w wr ∧ R = funcsS J.funcs j (J.funcs.drop j)) (fun v _ => J.funcs.length - (intOf v).toNat)
    case atStart => exact ⟨0, 0, by omega, rfl, H1, K1, HE.out⟩
    case round =>
      obtain ⟨j, f, hj, rfl, H, K, hR⟩ := hrel
      have HR := Lib.hid hR
      clear hR HE K1 H1
      by_cases hlt : j < J.funcs.length
      · obtain ⟨F, hF⟩ : ∃ F, J.funcs[j] = F := ⟨_, rfl⟩
        have hF' : J.funcs[j]? = some F := by rw [List.getElem?_eq_getElem hlt, hF]
        have HS : Hid (R = match functionS J.funcs j F with | some (i, e) => some ((j : Int), i, e) | none => funcsS J.funcs (j + 1) (J.funcs.drop (j + 1))) := by
          unfold Hid; rw [HR.out, List.drop_eq_getElem_cons hlt, hF]; rfl
        have hltI : (j : Int) < J.funcs.length := by omega
        have H2 := H.setF j hbc hpc hjc
        have K2 : Kp (fun b => b = cb) w (wr.setCell ⟨cb, 5, none⟩ (.int .i64 j)) := K.setCell _ _ (fun _ => rfl)
        have p0 := cell_blk H.hp 0 (v := .pointer (some ⟨cb, 0, none⟩)) rfl
        have z5 := free_blk H.hc 5
        have s5 := cell_blk H.hc 5 (v := .int .i64 f) rfl
        have p2 := cell_blk H2.hp 0 (v := .pointer (some ⟨cb, 0, none⟩)) rfl
        have PF := function_any B cb fao fcap av J j j F _ hF' H2.hc H2.fu H2.hB hbc (by omega)
        unfold FnE at PF
        obtain ⟨r, hr⟩ : ∃ r, functionS J.funcs j F = r := ⟨_, rfl⟩
        rw [hr] at PF HS
        have lc' := lt_of_block H.hc
        clear hr HR hF hF'
        cases r with
        | some p =>
          obtain ⟨i0, e0⟩ := p
          simp only [GivesAt, gaveUp] at PF
          have HE : Hid (R = some ((j : Int), i0, e0)) := HS
          clear HS
          go_wp2_with (first | (go_at_call 20; (with_reducible refine PF.mono ?_); rintro e w' ⟨rfl, hk', hc'⟩))
          exact ⟨rfl, by rw [HE.out]; rfl, K2.trans hk' (fun _ _ h => h)⟩
        | none =>
          have HE : Hid (R = funcsS J.funcs (j + 1) (J.funcs.drop (j + 1))) := HS
          clear HS
          go_wp2_with (first | (go_at_call 20; (with_reducible refine PF.mono ?_); rintro e w' ⟨rfl, hk', hc'⟩))
          go_roundw
          case rel => exact ⟨j + 1, j, by omega, by go_num, H2.kpc hk' hbc hpc hjc (hc' (by trivial)), K2.trans hk' (fun _ _ h => h), HE.out⟩
          case measure => simp [intOf]; omega
      · have HE : Hid (R = none) := by
          unfold Hid; rw [HR.out, List.drop_eq_nil_of_le (by omega)]; rfl
        go_wp2
        go_end0
        exact ⟨by rw [HE.out]; rfl, K⟩
end Go.Proofs.YtgjdlloiiedpmaaLiftDoor
