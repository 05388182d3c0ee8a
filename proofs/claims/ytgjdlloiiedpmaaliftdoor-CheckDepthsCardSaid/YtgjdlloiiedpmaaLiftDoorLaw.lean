/- What the law's functions have in common: 'One', 'num', 'alive'. No condition. -/
import Derived.Test.YtgjdlloiiedpmaaLiftDoorCheck
namespace Go.Proofs.YtgjdlloiiedpmaaLiftDoor
open Go.RowKit

/-- A job of one function. -/
def oneJ (code : List SIns) : SJob := ⟨[⟨⟨#[102]⟩, 0, 0, code⟩], 0, [], 100, 50⟩

theorem CodeAt.mono {B B' : Nat} {w : World} {v : Value} {l : List SIns} (h : CodeAt B w v l) (hb : B ≤ B') : CodeAt B' w v l := by
  obtain ⟨ao, cap, hv, h1, h2, h3⟩ := h.ex
  refine ⟨ao, cap, hv, h1, h2, fun hp => ?_⟩
  obtain ⟨b, o, hlt, ha, hc⟩ := h3 hp
  exact ⟨b, o, Nat.lt_of_lt_of_le hlt hb, ha, hc⟩
theorem FuncsAt.mono {B B' : Nat} {w : World} {v : Value} {l : List SFunc} (h : FuncsAt B w v l) (hb : B ≤ B') : FuncsAt B' w v l := by
  obtain ⟨ao, cap, hv, h1, h2, h3⟩ := h.ex
  refine ⟨ao, cap, hv, h1, h2, fun hp => ?_⟩
  obtain ⟨b, o, hlt, ha, hc⟩ := h3 hp
  refine ⟨b, o, Nat.lt_of_lt_of_le hlt hb, ha, fun j f hf => ?_⟩
  obtain ⟨h0, c0, c1, c2, cv, c3, hk⟩ := hc j f hf
  exact ⟨h0, c0, c1, c2, cv, c3, hk.mono hb⟩
theorem IntsAt.mono {B B' : Nat} {w : World} {v : Value} {l : List Int} (h : IntsAt B w v l) (hb : B ≤ B') : IntsAt B' w v l := by
  obtain ⟨ao, cap, hv, h1, h2, h3⟩ := h.ex
  refine ⟨ao, cap, hv, h1, h2, fun hp => ?_⟩
  obtain ⟨b, o, hlt, ha, hc⟩ := h3 hp
  exact ⟨b, o, Nat.lt_of_lt_of_le hlt hb, ha, hc⟩
theorem JobAt.mono {B B' : Nat} {w : World} {fv av : Value} {J : SJob} (h : JobAt B w fv av J) (hb : B ≤ B') : JobAt B' w fv av J := ⟨h.fu.mono hb, h.ar.mono hb⟩
theorem IntsAt.nil (B : Nat) (w : World) : IntsAt B w (.slice none 0 0) [] := ⟨none, 0, rfl, Nat.le_refl _, by decide, fun h => absurd h (by decide)⟩
theorem CodeAt.nil (B : Nat) (w : World) : CodeAt B w (.slice none 0 0) [] := ⟨none, 0, rfl, Nat.le_refl _, by decide, fun h => absurd h (by decide)⟩
/-- A code's value, from the block in which it lies. -/
theorem code_of_blk {w : World} {b : Nat} {l : List SIns} {t : TypeId} (h : w.heap[b]? = some (.cells (l.flatMap SIns.cells).toArray t (0, 0))) (hl : l.length ≤ 9223372036854775807) : CodeAt w.heap.size w (.slice (some ⟨b, 0, none⟩) l.length l.length) l := by
  refine ⟨_, _, rfl, Nat.le_refl _, hl, fun _ => ⟨b, 0, lt_of_block h, rfl, fun j x hx => ?_⟩⟩
  have key : ∀ (l : List SIns) (j : Nat), l[j]? = some x → (l.flatMap SIns.cells)[j * 2]? = some (.int .i64 x.op) ∧ (l.flatMap SIns.cells)[j * 2 + 1]? = some (.int .i64 x.n) := by
    intro l
    induction l with
    | nil => intro j hj; simp at hj
    | cons y r ih =>
      intro j hj
      cases j with
      | zero => have : y = x := by simpa using hj
                subst this; simp [SIns.cells]
      | succ j =>
        have := ih j (by simpa using hj)
        rw [show (j + 1) * 2 = j * 2 + 2 by omega]
        simpa [SIns.cells] using this
  obtain ⟨h1, h2⟩ := key l j hx
  rw [Nat.zero_add]
  exact ⟨cell_blk h _ (by simpa using h1), cell_blk h _ (by simpa using h2)⟩

theorem num_any (e : Int) (w : World) : Calls Tryl.prog 12 #[.int .i64 e] w fun x w' => x = .returned (.int .i64 e) ∧ w = w' := by
  go_enter Tryl.func12, Tryl.ntmps12
  go_wp2
  go_ret
  exact ⟨rfl, rfl⟩

theorem oneJ_any (code : List SIns) (cv : Value) (w : World) (h : CodeAt w.heap.size w cv code) :
    Calls Tryl.prog 10 #[cv] w fun e w' => ∃ fv, e = .returned (.agg #[fv, .int .i64 0, .slice none 0 0, .int .i64 100, .int .i64 50]) ∧ Kp No w w' ∧ JobAt w'.heap.size w' fv (.slice none 0 0) (oneJ code) := by
  obtain ⟨ao, cap, rfl, f1, f2, f3⟩ := h.ex
  go_enter Tryl.func10, Tryl.ntmps10
  go_wp2
  have H0 := blk_alloc (blk_new w (.cells #[.slice (some ⟨w.heap.size + 1, 0, none⟩) 1 1, .int .i64 0, .slice none 0 0, .int .i64 100, .int .i64 50] 26) _ rfl) (.cells #[.string ⟨#[102]⟩, .int .i64 0, .int .i64 0, .slice ao code.length cap] 33)
  have H1 := blk_new (w.alloc (.cells #[.slice (some ⟨w.heap.size + 1, 0, none⟩) 1 1, .int .i64 0, .slice none 0 0, .int .i64 100, .int .i64 50] 26)) (.cells #[.string ⟨#[102]⟩, .int .i64 0, .int .i64 0, .slice ao code.length cap] 33) (w.heap.size + 1) (by simp)
  have K : Kp No w ((w.alloc (.cells #[.slice (some ⟨w.heap.size + 1, 0, none⟩) 1 1, .int .i64 0, .slice none 0 0, .int .i64 100, .int .i64 50] 26)).alloc (.cells #[.string ⟨#[102]⟩, .int .i64 0, .int .i64 0, .slice ao code.length cap] 33)) := ((Kp.refl No w).alloc _).alloc _
  generalize (w.alloc (.cells #[.slice (some ⟨w.heap.size + 1, 0, none⟩) 1 1, .int .i64 0, .slice none 0 0, .int .i64 100, .int .i64 50] 26)).alloc (.cells #[.string ⟨#[102]⟩, .int .i64 0, .int .i64 0, .slice ao code.length cap] 33) = W at H0 H1 K ⊢
  have c0 := cell_blk H0 0 (v := .slice (some ⟨w.heap.size + 1, 0, none⟩) 1 1) rfl
  have c1 := cell_blk H0 1 (v := .int .i64 0) rfl
  have c2 := cell_blk H0 2 (v := .slice none 0 0) rfl
  have c3 := cell_blk H0 3 (v := .int .i64 100) rfl
  have c4 := cell_blk H0 4 (v := .int .i64 50) rfl
  refine ⟨rfl, _, by simp [results, Tryl.results10, go_sem, c0, c1, c2, c3, c4], .slice (some ⟨w.heap.size + 1, 0, none⟩) 1 1, rfl, K, ⟨⟨_, _, rfl, Nat.le_refl 1, (by show 1 ≤ 9223372036854775807; decide), fun _ => ⟨w.heap.size + 1, 0, lt_of_block H1, rfl, fun j f hf => ?_⟩⟩, IntsAt.nil _ _⟩⟩
  have : j = 0 ∧ f = ⟨⟨#[102]⟩, 0, 0, code⟩ := by
    cases j with
    | zero => exact ⟨rfl, by simpa [oneJ] using hf.symm⟩
    | succ j => simp [oneJ] at hf
  obtain ⟨rfl, rfl⟩ := this
  exact ⟨(by show (⟨#[102]⟩ : ByteArray).size ≤ 9223372036854775807; decide), cell_blk H1 0 rfl, cell_blk H1 1 rfl, cell_blk H1 2 rfl, _, cell_blk H1 3 rfl, (h.to (K.below (Nat.le_refl _) (fun _ x => x.elim))).mono K.size⟩

theorem check_one (code : List SIns) (r : Int × Int × Int) (hr : checkR (oneJ code) = r) (fv : Value) (w : World) (hg : ErrVar w) (hJ : JobAt w.heap.size w fv (.slice none 0 0) (oneJ code)) :
    Calls Tryl.prog 11 #[.agg #[fv, .int .i64 0, .slice none 0 0, .int .i64 100, .int .i64 50]] w fun e w' => e = .returned (.tuple #[.int .i64 r.1, .int .i64 r.2.1, .int .i64 r.2.2]) ∧ Kp No w w' := by
  subst hr
  exact check_any fv (.slice none 0 0) (oneJ code) w hg hJ

theorem aliveR1 : checkR (oneJ [⟨7, 0⟩]) = (0, 0, 12) := by kernel_rfl
theorem aliveR2 : checkR (oneJ [⟨1, 5⟩, ⟨18, 0⟩]) = (0, 0, 0) := by kernel_rfl

theorem codeA (w : World) : CodeAt (w.alloc (.cells #[.int .i64 7, .int .i64 0] 29)).heap.size (w.alloc (.cells #[.int .i64 7, .int .i64 0] 29)) (.slice (some ⟨w.heap.size, 0, none⟩) 1 1) [⟨7, 0⟩] :=
  code_of_blk (l := [⟨7, 0⟩]) (blk_new w _ _ rfl) (by decide)
theorem codeB (w : World) (op n : Int) : CodeAt (w.alloc (.cells #[.int .i64 op, .int .i64 n, .int .i64 18, .int .i64 0] 29)).heap.size (w.alloc (.cells #[.int .i64 op, .int .i64 n, .int .i64 18, .int .i64 0] 29)) (.slice (some ⟨w.heap.size, 0, none⟩) 2 2) [⟨op, n⟩, ⟨18, 0⟩] :=
  code_of_blk (l := [⟨op, n⟩, ⟨18, 0⟩]) (blk_new w _ _ rfl) (by simp)

set_option maxHeartbeats 1000000 in
theorem alive_any (w : World) (hg : ErrVar w) : Calls Tryl.prog 9 #[] w fun e w' => e = .returned (.bool true) ∧ Kp No w w' := by
  go_enter Tryl.func9, Tryl.ntmps9
  go_wp2_with (first
    | (go_at_call 10; (with_reducible refine (oneJ_any [⟨7, 0⟩] _ _ (codeA w)).mono ?_); rintro e w1 ⟨fv, rfl, hk1, hJ⟩; have hg1 := hk1.cell (cell_al hg _) (fun x => x))
    | (go_at_call 11; (with_reducible refine (check_one [⟨7, 0⟩] _ aliveR1 _ _ hg1 hJ).mono ?_); rintro e w2 ⟨rfl, hk2⟩; have hg2 := hk2.cell hg1 (fun x => x); clear hJ)
    | (go_at_call 10; (with_reducible refine (oneJ_any [⟨1, 5⟩, ⟨18, 0⟩] _ _ (codeB w2 1 5)).mono ?_); rintro e w3 ⟨fv, rfl, hk3, hJ3⟩; have hg3 := hk3.cell (cell_al hg2 _) (fun x => x))
    | (go_at_call 11; (with_reducible refine (check_one [⟨1, 5⟩, ⟨18, 0⟩] _ aliveR2 _ _ hg3 hJ3).mono ?_); rintro e w4 ⟨rfl, hk4⟩)
    | (go_at_call 12; (with_reducible refine (num_any _ _).mono ?_); rintro e w' ⟨rfl, rfl⟩))
  go_ret
  exact ⟨rfl, (((((Kp.refl No w).alloc _).trans hk1 (fun _ _ h => h)).trans hk2 (fun _ _ h => h)).alloc _).trans (hk3.trans hk4 (fun _ _ h => h)) (fun _ _ h => h)⟩
end Go.Proofs.YtgjdlloiiedpmaaLiftDoor
