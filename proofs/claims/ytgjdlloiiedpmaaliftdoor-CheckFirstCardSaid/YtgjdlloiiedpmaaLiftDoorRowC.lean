/- A code that the call itself builds: a row of its own. No condition. -/
import Derived.Test.YtgjdlloiiedpmaaLiftDoorOneJ
import Derived.Deep.AppendLies
namespace Go.Proofs.YtgjdlloiiedpmaaLiftDoor
open Go.RowKit

theorem infoIns : (Tryl.prog.info? 29).map (fun i => (i.zero, i.size, i.bytes)) = some (some (.agg #[.int .i64 0, .int .i64 0]), 2, 16) := by kernel_rfl

def insCells (l : List SIns) : List Value := l.flatMap SIns.cells
theorem insCells_len (l : List SIns) : (insCells l).length = l.length * 2 := by
  induction l with
  | nil => rfl
  | cons x r ih => simp only [insCells, List.flatMap_cons, List.length_append, List.length_cons] at ih ⊢; simp only [SIns.cells, List.length_cons, List.length_nil]; omega
theorem insCells_app (l r : List SIns) : insCells (l ++ r) = insCells l ++ insCells r := by simp [insCells]
theorem insCells_get {l : List SIns} {j : Nat} {x : SIns} (h : l[j]? = some x) : (insCells l)[j * 2]? = some (.int .i64 x.op) ∧ (insCells l)[j * 2 + 1]? = some (.int .i64 x.n) := by
  induction l generalizing j with
  | nil => simp at h
  | cons y r ih =>
    cases j with
    | zero =>
      have : y = x := by simpa using h
      subst this; simp [insCells, SIns.cells]
    | succ j =>
      have := ih (j := j) (by simpa using h)
      rw [show (j + 1) * 2 = j * 2 + 2 by omega]
      simpa [insCells, SIns.cells] using this

/-- A row of instructions of the call's own. -/
structure RowC (base : Nat) (v : Value) (l : List SIns) (w : World) : Prop where
  own : w.ownsRow base 29 2 v l.length (insCells l)
theorem RowC.nil (base : Nat) (w : World) : RowC base (.slice none 0 0) [] w := ⟨World.ownsRow_nil _ _ _ _⟩
theorem RowC.form {base : Nat} {v : Value} {l : List SIns} {w : World} (h : RowC base v l w) : ∃ ao cap, v = .slice ao l.length cap := by
  rcases h.own.2 with ⟨h0, h1⟩ | ⟨g, cap, cur, hv, _⟩
  · exact ⟨none, 0, by rw [h0, h1]⟩
  · exact ⟨_, _, hv⟩
theorem RowC.lt {base : Nat} {v : Value} {l : List SIns} {w : World} (h : RowC base v l w) : ∀ k, v.ownBlock = some k → base ≤ k ∧ k < w.heap.size := h.own.lt
theorem RowC.code {base : Nat} {v : Value} {l : List SIns} {w : World} (h : RowC base v l w) (hl : l.length ≤ 1000000) : CodeAt w.heap.size w v l := by
  rcases h.own.2 with ⟨h0, h1⟩ | ⟨g, cap, cur, hv, hb, hg, hc, hm, hs, ht⟩
  · have : l = [] := by cases l with | nil => rfl | cons _ _ => simp at h1
    subst this; rw [h0]; exact CodeAt.nil _ _
  · refine ⟨_, _, hv, hc, hm, fun _ => ⟨g, 0, lt_of_block hg, rfl, fun j x hx => ?_⟩⟩
    obtain ⟨a1, a2⟩ := insCells_get hx
    have get : ∀ i v, (insCells l)[i]? = some v → cur[i]? = some v := fun i v hi => by
      rw [← ht, List.getElem?_take] at hi
      split at hi
      · rw [Array.getElem?_toList] at hi; exact hi
      · cases hi
    rw [Nat.zero_add]
    exact ⟨cell_blk hg _ (get _ _ a1), cell_blk hg _ (get _ _ a2)⟩
theorem RowC.alloc {base : Nat} {v : Value} {l : List SIns} {w : World} (h : RowC base v l w) (o : Obj) : RowC base v l (w.alloc o) := ⟨h.own.alloc o⟩
theorem RowC.kp {base : Nat} {v : Value} {l : List SIns} {w w' : World} {X : Nat → Prop} (h : RowC base v l w) (k : Kp X w w') (hx : ∀ b, v.ownBlock = some b → ¬ X b) : RowC base v l w' := by
  refine ⟨h.own.1, ?_⟩
  rcases h.own.2 with h0 | ⟨g, cap, cur, hv, hb, hg, hr⟩
  · exact .inl h0
  · exact .inr ⟨g, cap, cur, hv, hb, k.blk hg (hx g (by rw [hv]; rfl)), hr⟩

/-- One instruction more, at the list of a plain region's operations. -/
theorem list_pushC {ops : Array Oper} {rest : List Oper} {o : Oper} {a : Act} {Q : Exit → Act → World → Prop} {w : World} (s x : Operand) (hgd : o.guard = none)
    (ho : o.op = .call { callee := .builtin .append, args := #[s, x], argTypes := #[31, 31] })
    (base : Nat) (v : Value) (l : List SIns) (y : SIns) (B cp : Nat) (hs : a.eval s = v) (hx : a.eval x = .slice (some ⟨B, 0, none⟩) 1 cp) (hB : w.heap[B]? = some (.cells #[.int .i64 y.op, .int .i64 y.n] 29 (0, 0))) (hown : RowC base v l w)
    (hl : l.length ≤ 1000000) (hbase : base ≤ w.heap.size)
    (h : ∀ g cap w', RowC base (.slice (some ⟨g, 0, none⟩) (l.length + 1) cap) (l ++ [y]) w' → w.grownBy w' v.ownBlock → (v.ownBlock = some g ∨ g = w.heap.size) → wpList Tryl.prog ops Q rest (a.put o.dst (.slice (some ⟨g, 0, none⟩) (l.length + 1) cap)) w') : wpList Tryl.prog ops Q (o :: rest) a w := by
  obtain ⟨i0, hi, hz0, hz1, hz2⟩ := info_parts infoIns
  refine wpList_append_lies w hgd s x 31 ho base 29 i0 (.agg #[.int .i64 0, .int .i64 0]) 2 16 Tryl.underlying31 hi hz0 hz1 hz2 rfl (by decide) v l.length (insCells l) hs hown.own ⟨B, 0, none⟩ 1 cp [.int .i64 y.op, .int .i64 y.n] hx rfl ?_ ?_ (by decide) ?_ ?_ hbase _ rfl ?_
  · exact fun j u hu => World.news_of_block hB j u (by simpa using hu)
  · intro u hu; simp at hu; rcases hu with rfl | rfl <;> rfl
  · unfold maxLen; omega
  · omega
  · intro g cap w' h1 h2 h3 _
    refine h g cap w' ⟨?_⟩ h2 h3
    rw [List.length_append, insCells_app]
    exact h1
/-- Behind a push all old memory is as it was. -/
theorem push_kp {X : Nat → Prop} {w0 w w' : World} {v : Value} {base : Nat} {l : List SIns} (hk : Kp X w0 w) (h : RowC base v l w) (hg : w.grownBy w' v.ownBlock) (hb : w0.heap.size ≤ base) : Kp X w0 w' := by
  have k : Kp (fun b => v.ownBlock = some b) w w' := ⟨hg.os, hg.tape, hg.output, hg.size, fun i hi hx => hg.block i hi (fun e => hx e.symm)⟩
  exact hk.trans k (fun i hi hx => absurd (h.lt i hx).1 (by omega))
end Go.Proofs.YtgjdlloiiedpmaaLiftDoor
