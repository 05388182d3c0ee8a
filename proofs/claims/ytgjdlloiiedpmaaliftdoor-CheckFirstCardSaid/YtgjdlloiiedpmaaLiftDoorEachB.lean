/- 'CheckEach': what its walk leans on: 'One' with its blocks; a job's reading out of blocks known whole. No condition. -/
import Derived.Test.YtgjdlloiiedpmaaLiftDoorEachP
import Derived.Test.YtgjdlloiiedpmaaLiftDoorLaw
namespace Go.Proofs.YtgjdlloiiedpmaaLiftDoor
open Go.RowKit

theorem oneJ_blk (ao : Option Addr) (n cap : Nat) (w : World) :
    Calls Tryl.prog 10 #[.slice ao n cap] w fun e w' => ∃ b, e = .returned (.agg #[.slice (some ⟨b, 0, none⟩) 1 1, .int .i64 0, .slice none 0 0, .int .i64 100, .int .i64 50]) ∧ Kp No w w' ∧ w.heap.size ≤ b ∧
      w'.heap[b]? = some (.cells #[.string fName, .int .i64 0, .int .i64 0, .slice ao n cap] 33 (0, 0)) := by
  go_enter Tryl.func10, Tryl.ntmps10
  go_wp2
  have H0 := blk_alloc (blk_new w (.cells #[.slice (some ⟨w.heap.size + 1, 0, none⟩) 1 1, .int .i64 0, .slice none 0 0, .int .i64 100, .int .i64 50] 26) _ rfl) (.cells #[.string ⟨#[102]⟩, .int .i64 0, .int .i64 0, .slice ao n cap] 33)
  have H1 := blk_new (w.alloc (.cells #[.slice (some ⟨w.heap.size + 1, 0, none⟩) 1 1, .int .i64 0, .slice none 0 0, .int .i64 100, .int .i64 50] 26)) (.cells #[.string ⟨#[102]⟩, .int .i64 0, .int .i64 0, .slice ao n cap] 33) (w.heap.size + 1) (by simp)
  have K : Kp No w ((w.alloc (.cells #[.slice (some ⟨w.heap.size + 1, 0, none⟩) 1 1, .int .i64 0, .slice none 0 0, .int .i64 100, .int .i64 50] 26)).alloc (.cells #[.string ⟨#[102]⟩, .int .i64 0, .int .i64 0, .slice ao n cap] 33)) := ((Kp.refl No w).alloc _).alloc _
  generalize (w.alloc (.cells #[.slice (some ⟨w.heap.size + 1, 0, none⟩) 1 1, .int .i64 0, .slice none 0 0, .int .i64 100, .int .i64 50] 26)).alloc (.cells #[.string ⟨#[102]⟩, .int .i64 0, .int .i64 0, .slice ao n cap] 33) = W at H0 H1 K ⊢
  have c0 := cell_blk H0 0 (v := .slice (some ⟨w.heap.size + 1, 0, none⟩) 1 1) rfl
  have c1 := cell_blk H0 1 (v := .int .i64 0) rfl
  have c2 := cell_blk H0 2 (v := .slice none 0 0) rfl
  have c3 := cell_blk H0 3 (v := .int .i64 100) rfl
  have c4 := cell_blk H0 4 (v := .int .i64 50) rfl
  exact ⟨rfl, _, by simp [results, Tryl.results10, go_sem, c0, c1, c2, c3, c4], w.heap.size + 1, rfl, K, by omega, H1⟩

/-- A row of functions out of its block, each code's reading known. -/
theorem funcs_one {fb : Nat} {W : World} {nm : ByteArray} {fa fl : Int} {cv : Value} {code : List SIns} (h : W.heap[fb]? = some (.cells #[.string nm, .int .i64 fa, .int .i64 fl, cv] 33 (0, 0))) (hn : nm.size ≤ 9223372036854775807) (hc : CodeAt W.heap.size W cv code) :
    FuncsAt W.heap.size W (.slice (some ⟨fb, 0, none⟩) 1 1) [⟨nm, fa, fl, code⟩] := by
  refine ⟨⟨_, _, rfl, Nat.le_refl 1, (by show 1 ≤ 9223372036854775807; decide), fun _ => ⟨fb, 0, lt_of_block h, rfl, fun j f hf => ?_⟩⟩⟩
  have : j = 0 ∧ f = ⟨nm, fa, fl, code⟩ := by
    cases j with
    | zero => exact ⟨rfl, by simpa using hf.symm⟩
    | succ j => simp at hf
  obtain ⟨rfl, rfl⟩ := this
  exact ⟨hn, cell_blk h 0 rfl, cell_blk h 1 rfl, cell_blk h 2 rfl, _, cell_blk h 3 rfl, hc⟩
theorem FuncsAt.nil (B : Nat) (w : World) : FuncsAt B w (.slice none 0 0) [] := ⟨none, 0, rfl, Nat.le_refl _, by decide, fun h => absurd h (by decide)⟩
/-- A code out of its block; and its head. -/
theorem code_two {W : World} {b : Nat} {x y : SIns} {t : TypeId} (h : W.heap[b]? = some (.cells #[.int .i64 x.op, .int .i64 x.n, .int .i64 y.op, .int .i64 y.n] t (0, 0))) : CodeAt W.heap.size W (.slice (some ⟨b, 0, none⟩) 2 2) [x, y] :=
  code_of_blk (l := [x, y]) h (by simp)
theorem code_head {W : World} {b : Nat} {x y : SIns} {t : TypeId} (h : W.heap[b]? = some (.cells #[.int .i64 x.op, .int .i64 x.n, .int .i64 y.op, .int .i64 y.n] t (0, 0))) : CodeAt W.heap.size W (.slice (some ⟨b, 0, none⟩) 1 2) [x] := by
  refine ⟨_, _, rfl, by show 1 ≤ 2; decide, by decide, fun _ => ⟨b, 0, lt_of_block h, rfl, fun j z hz => ?_⟩⟩
  have : j = 0 ∧ z = x := by
    cases j with
    | zero => exact ⟨rfl, by simpa using hz.symm⟩
    | succ j => simp at hz
  obtain ⟨rfl, rfl⟩ := this
  exact ⟨cell_blk h 0 rfl, cell_blk h 1 rfl⟩

theorem blk_set {w : World} {b : Nat} {cs cs' : Array Value} {t : TypeId} (h : w.heap[b]? = some (.cells cs t (0, 0))) (j : Nat) (u : Value) (e : cs.setIfInBounds j u = cs') : (w.setCell ⟨b, j, none⟩ u).heap[b]? = some (.cells cs' t (0, 0)) := by
  rw [blk_setCell h, e]
theorem check_mk {fs : List SFunc} {main : Int} {args : List Int} {fuel tasks e : Int} (hS : Says ⟨fs, main, args, fuel, tasks⟩ e) (fv av : Value) (w W : World) (hg : ErrVar w) (K : Kp No w W) (hJ : JobAt W.heap.size W fv av ⟨fs, main, args, fuel, tasks⟩) :
    Calls Tryl.prog 11 #[.agg #[fv, .int .i64 main, av, .int .i64 fuel, .int .i64 tasks]] W fun x w' => (∃ f i, x = .returned (.tuple #[.int .i64 f, .int .i64 i, .int .i64 e])) ∧ Kp No w w' := by
  obtain ⟨f, i, hr⟩ := hS
  have := check_any fv av ⟨fs, main, args, fuel, tasks⟩ W (K.cell hg (fun x => x)) hJ
  rw [hr] at this
  exact this.mono fun x w' h => ⟨⟨f, i, h.1⟩, K.trans h.2 (fun _ _ h => h)⟩
/-- A store into a block that is new since w. -/
theorem Kp.setNew {w W : World} (k : Kp No w W) (b j : Nat) (u : Value) (h : w.heap.size ≤ b) : Kp No w (W.setCell ⟨b, j, none⟩ u) := k.setCell _ _ (fun x => absurd x (by simp only; omega))
end Go.Proofs.YtgjdlloiiedpmaaLiftDoor
