/- 'asked$1', 'asked': what was given up with. No condition. -/
import Derived.Test.YtgjdlloiiedpmaaLiftDoorDo
import Derived.Test.YtgjdlloiiedpmaaLiftDoorAs
import Derived.Defers
import Derived.Recover
namespace Go.Proofs.YtgjdlloiiedpmaaLiftDoor
open Go.RowKit

/-- The variable that errors.As reads. -/
abbrev ErrVar (w : World) : Prop := w.cell? ⟨0, 0, none⟩ = some (.iface 91 (.agg #[.pointer (some ⟨4, 62, none⟩)]))

set_option maxRecDepth 100000 in
set_option maxHeartbeats 2000000 in
theorem catch_panicking (tb : Nat) (f i e : Int) (x y z : Value) (w : World) (hg : ErrVar w) (ht : w.heap[tb]? = some (.cells #[x, y, z] 51 (0, 0))) :
    CallsD Tryl.prog 24 #[.pointer (some ⟨tb, 0, none⟩)] (.panicking [{ v := wrongV f i e, recovered := false }]) w fun ev u' w' =>
      ev = .returned (.tuple #[]) ∧ u' = .panicking [{ v := wrongV f i e, recovered := true }] ∧ Kp (fun b => b = tb) w w' ∧ w'.heap[tb]? = some (.cells #[.int .i64 f, .int .i64 i, .int .i64 e] 51 (0, 0)) := by
  have hta : ∀ (v : Value) (w : World), (Instr.typeAssert (.iface 51 v) 20 62 true).run Tryl.prog w = .ok (.tuple #[.iface 51 v, .bool true]) w := fun v w => run_typeAssert_hasB Tryl.underlying62 (by kernel_rfl) v _ w
  refine callsD_of_wpS Tryl.func24 rfl fun c₀ cs hu => ?_
  rw [show (#[Value.pointer (some ⟨tb, 0, none⟩)] ++ Array.replicate (Tryl.f24.ntmps - (#[Value.pointer (some ⟨tb, 0, none⟩)]).size) undef) = #[.pointer (some ⟨tb, 0, none⟩), undef, undef, undef, undef, undef, undef, undef, undef, undef, undef, undef, undef, undef, undef, undef, undef] by rw [Tryl.ntmps24]; rfl]
  apply wpS_seq
  apply wpS_region
  simp [wpOpsS, go_sem, recoverD, hu, Exit.thenS, wrongV]
  refine wpS_of_wp ?_
  go_wp2_with (first | (go_at_call 25; (with_reducible refine (as_hit tb f i e x y z _ _ hg ht).mono ?_); rintro ev w' ⟨rfl, hk, hb⟩))
  exact ⟨rfl, _, rfl, _, by simp [results, Tryl.results24], rfl, rfl, hk, hb⟩

theorem catch_idle (tb : Nat) (w : World) :
    CallsD Tryl.prog 24 #[.pointer (some ⟨tb, 0, none⟩)] .returning w fun e u' w' => e = .returned (.tuple #[]) ∧ u' = .returning ∧ w' = w := by
  refine callsD_of_wpS Tryl.func24 rfl fun c₀ cs hu => ?_
  rw [show (#[Value.pointer (some ⟨tb, 0, none⟩)] ++ Array.replicate (Tryl.f24.ntmps - (#[Value.pointer (some ⟨tb, 0, none⟩)]).size) undef) = #[.pointer (some ⟨tb, 0, none⟩), undef, undef, undef, undef, undef, undef, undef, undef, undef, undef, undef, undef, undef, undef, undef, undef] by rw [Tryl.ntmps24]; rfl]
  apply wpS_seq
  apply wpS_region
  simp [wpOpsS, go_sem, recoverD, hu, Exit.thenS]
  refine wpS_of_wp ?_
  go_wp2
  cases c₀
  simp_all [bodyPostS, results, Tryl.results24]

/-- What 'asked' hands back. -/
def askedV (r : Option (Int × Int × Int)) : Value :=
  match r with
  | none => .agg #[.int .i64 0, .int .i64 0, .int .i64 0]
  | some (f, i, e) => .agg #[.int .i64 f, .int .i64 i, .int .i64 e]

set_option maxHeartbeats 2000000 in
theorem asked_any (B cb pb jb : Nat) (fao : Option Addr) (fcap : Nat) (av : Value) (J : SJob) (w : World) (hg : ErrVar w) (hcg : cb ≠ 0) (H : DoW B cb pb jb fao fcap av J 0 0 w) (hbc : B ≤ cb) (hpc : pb ≠ cb) (hjc : jb ≠ cb) :
    Calls Tryl.prog 17 #[.func (.func 18) #[] #[.pointer (some ⟨pb, 0, none⟩), .pointer (some ⟨jb, 0, none⟩)]] w fun e w' => e = .returned (askedV (checkS J)) ∧ Kp (fun b => b = cb) w w' := by
  have hmf : ∀ (fn : Fn) (first cap : Array Value) (w : World), (Instr.makeFunc fn first cap).run Tryl.prog w = .ok (.func fn first cap) w := fun _ _ _ _ => rfl
  have H1 := H.kp (kp_al w (.cells #[.int .i64 0, .int .i64 0, .int .i64 0] 51))
  have PD := do_any B cb pb jb fao fcap av J _ H1 hbc hpc hjc
  have lc := lt_of_block H.hc
  cases hr : checkS J with
  | none =>
    rw [hr] at PD
    simp only [GivesF] at PD
    go_enter_defers Tryl.func17, Tryl.ntmps17
    go_wp2_with (first | (go_at_call 18; (with_reducible refine PD.mono ?_); rintro e w' ⟨rfl, hk⟩; have hb := hk.blk (blk_new w (.cells #[.int .i64 0, .int .i64 0, .int .i64 0] 51) _ rfl) (fun h => by omega); have c0 := cell_blk hb 0 (v := .int .i64 0) rfl; have z0 := free_blk hb 0; have hb1 := blk_setCell hb 0 (.int .i64 0); have c1 := cell_blk hb1 1 (v := .int .i64 0) rfl; have z1 := free_blk hb1 1; have hb2 := blk_setCell hb1 1 (.int .i64 0); have c2 := cell_blk hb2 2 (v := .int .i64 0) rfl; have z2 := free_blk hb2 2))
    refine leaves_cons (f := 24) (args := #[.pointer (some ⟨w.heap.size, 0, none⟩)]) (by simp) (by simp [go_sem]) ?_
    refine (catch_idle w.heap.size _).mono ?_
    rintro e u' w'' ⟨rfl, rfl, rfl⟩
    have hbf := blk_setCell hb2 2 (.int .i64 0)
    have hkk : Kp (fun b => b = cb) w (((w'.setCell ⟨w.heap.size, 0, none⟩ (.int .i64 0)).setCell ⟨w.heap.size, 1, none⟩ (.int .i64 0)).setCell ⟨w.heap.size, 2, none⟩ (.int .i64 0)) :=
      (((((Kp.refl _ w).alloc _).trans hk (fun _ _ h => h)).setCell _ _ (fun h => by simp at h)).setCell _ _ (fun h => by simp at h)).setCell _ _ (fun h => by simp at h)
    generalize ((w'.setCell ⟨w.heap.size, 0, none⟩ (.int .i64 0)).setCell ⟨w.heap.size, 1, none⟩ (.int .i64 0)).setCell ⟨w.heap.size, 2, none⟩ (.int .i64 0) = W2 at hbf hkk ⊢
    have f0 := cell_blk hbf 0 (v := .int .i64 0) rfl
    have f1 := cell_blk hbf 1 (v := .int .i64 0) rfl
    have f2 := cell_blk hbf 2 (v := .int .i64 0) rfl
    simp [Leaves, settle, results, Tryl.results17, go_sem, f0, f1, f2, askedV, hkk]
  | some p =>
    obtain ⟨f, i, e⟩ := p
    rw [hr] at PD
    simp only [GivesF, gaveUp] at PD
    go_enter_defers Tryl.func17, Tryl.ntmps17
    go_wp2_with (first | (go_at_call 18; (with_reducible refine PD.mono ?_); rintro e' w' ⟨rfl, hk⟩))
    have hb := hk.blk (blk_new w (.cells #[.int .i64 0, .int .i64 0, .int .i64 0] 51) _ rfl) (fun h => by omega)
    refine leaves_cons (f := 24) (args := #[.pointer (some ⟨w.heap.size, 0, none⟩)]) (by simp) (by simp [go_sem]) ?_
    refine (catch_panicking w.heap.size f i e _ _ _ _ (hk.cell (cell_al hg _) (fun h => hcg h.symm)) hb).mono ?_
    rintro e' u' w'' ⟨rfl, rfl, hk2, hb2⟩
    have f0 := cell_blk hb2 0 (v := .int .i64 f) rfl
    have f1 := cell_blk hb2 1 (v := .int .i64 i) rfl
    have f2 := cell_blk hb2 2 (v := .int .i64 e) rfl
    have hkk : Kp (fun b => b = cb) w w'' := (((Kp.refl _ w).alloc _).trans hk (fun _ _ h => h)).trans hk2 (fun i hi h => by omega)
    simp [Leaves, settle, results, Tryl.results17, go_sem, f0, f1, f2, askedV, hkk]
end Go.Proofs.YtgjdlloiiedpmaaLiftDoor
