/- A row of functions of the call's own. No condition. -/
import Derived.Test.YtgjdlloiiedpmaaLiftDoorRowC
import Derived.Deep.AppendLies
namespace Go.Proofs.YtgjdlloiiedpmaaLiftDoor
open Go.RowKit

theorem infoFunc : (Tryl.prog.info? 33).map (fun i => (i.zero, i.size, i.bytes)) = some (some (.agg #[.string ⟨#[]⟩, .int .i64 0, .int .i64 0, .slice none 0 0]), 4, 56) := by kernel_rfl
def fzero : Value := .agg #[.string ⟨#[]⟩, .int .i64 0, .int .i64 0, .slice none 0 0]
/-- A function's cells, its code's value given. -/
def funCell (p : SFunc × Value) : List Value := [.string p.1.name, .int .i64 p.1.args, .int .i64 p.1.locals, p.2]
def funCells (l : List (SFunc × Value)) : List Value := l.flatMap funCell
theorem funCells_len (l : List (SFunc × Value)) : (funCells l).length = l.length * 4 := by
  induction l with
  | nil => rfl
  | cons x r ih => simp only [funCells, List.flatMap_cons, List.length_append, List.length_cons] at ih ⊢; simp only [funCell, List.length_cons, List.length_nil]; omega
theorem funCells_app (l r : List (SFunc × Value)) : funCells (l ++ r) = funCells l ++ funCells r := by simp [funCells]
theorem funCells_get {l : List (SFunc × Value)} {j : Nat} {x : SFunc × Value} (h : l[j]? = some x) : (funCells l)[j * 4]? = some (.string x.1.name) ∧ (funCells l)[j * 4 + 1]? = some (.int .i64 x.1.args) ∧ (funCells l)[j * 4 + 2]? = some (.int .i64 x.1.locals) ∧ (funCells l)[j * 4 + 3]? = some x.2 := by
  induction l generalizing j with
  | nil => simp at h
  | cons y r ih =>
    cases j with
    | zero =>
      have : y = x := by simpa using h
      subst this; simp [funCells, funCell]
    | succ j =>
      have := ih (j := j) (by simpa using h)
      rw [show (j + 1) * 4 = j * 4 + 4 by omega]
      simpa [funCells, funCell] using this
theorem funCell_one {p : SFunc × Value} (h : p.2.oneCell' = true) : ∀ u ∈ funCell p, u.oneCell' = true := by
  intro u hu
  simp only [funCell, List.mem_cons, List.mem_nil_iff, or_false] at hu
  rcases hu with rfl | rfl | rfl | rfl
  · rfl
  · rfl
  · rfl
  · exact h
/-- A row of functions out of the cells that the call owns. -/
theorem funcs_of_row {base g cap : Nat} {W : World} {l : List (SFunc × Value)} (h : W.ownsRow base 33 4 (.slice (some ⟨g, 0, none⟩) l.length cap) l.length (funCells l))
    (hc : ∀ p ∈ l, p.1.name.size ≤ 9223372036854775807 ∧ CodeAt W.heap.size W p.2 p.1.code) : FuncsAt W.heap.size W (.slice (some ⟨g, 0, none⟩) l.length cap) (l.map (·.1)) := by
  rcases h.2 with ⟨h0, _⟩ | ⟨g', cap', cur, hv, hb, hg, hn, hm, hs, ht⟩
  · cases h0
  · cases hv
    refine ⟨_, _, by rw [List.length_map], by rw [List.length_map]; exact hn, hm, fun _ => ⟨g, 0, lt_of_block hg, rfl, fun j f hf => ?_⟩⟩
    rw [List.getElem?_map] at hf
    obtain ⟨p, hp, rfl⟩ := Option.map_eq_some_iff.1 hf
    obtain ⟨a0, a1, a2, a3⟩ := funCells_get hp
    have get : ∀ i v, (funCells l)[i]? = some v → cur[i]? = some v := fun i v hi => by
      rw [← ht, List.getElem?_take] at hi
      split at hi
      · rw [Array.getElem?_toList] at hi; exact hi
      · cases hi
    obtain ⟨c1, c2⟩ := hc p (List.mem_of_getElem? hp)
    rw [Nat.zero_add]
    exact ⟨c1, cell_blk hg _ (get _ _ a0), cell_blk hg _ (get _ _ a1), cell_blk hg _ (get _ _ a2), _, cell_blk hg _ (get _ _ a3), c2⟩

/-- One function more, at the list of a plain region's operations. -/
theorem list_pushF {ops : Array Oper} {rest : List Oper} {o : Oper} {a : Act} {Q : Exit → Act → World → Prop} {w : World} (s x : Operand) (hgd : o.guard = none)
    (ho : o.op = .call { callee := .builtin .append, args := #[s, x], argTypes := #[23, 23] })
    (base : Nat) (v : Value) (l : List (SFunc × Value)) (y : SFunc × Value) (B cp : Nat) (hs : a.eval s = v) (hx : a.eval x = .slice (some ⟨B, 0, none⟩) 1 cp) (hB : w.heap[B]? = some (.cells (funCell y).toArray 33 (0, 0))) (hy : y.2.oneCell' = true) (hown : w.ownsRow base 33 4 v l.length (funCells l))
    (hl : l.length ≤ 1000000) (hbase : base ≤ w.heap.size)
    (h : ∀ g cap w', w'.ownsRow base 33 4 (.slice (some ⟨g, 0, none⟩) (l.length + 1) cap) (l.length + 1) (funCells (l ++ [y])) → w.grownBy w' v.ownBlock → (v.ownBlock = some g ∨ g = w.heap.size) → wpList Tryl.prog ops Q rest (a.put o.dst (.slice (some ⟨g, 0, none⟩) (l.length + 1) cap)) w') : wpList Tryl.prog ops Q (o :: rest) a w := by
  obtain ⟨i0, hi, hz0, hz1, hz2⟩ := info_parts infoFunc
  refine wpList_append_lies w hgd s x 23 ho base 33 i0 fzero 4 56 Tryl.underlying23 hi hz0 hz1 hz2 rfl (by decide) v l.length (funCells l) hs hown ⟨B, 0, none⟩ 1 cp (funCell y) hx rfl ?_ (funCell_one hy) (by decide) ?_ ?_ hbase _ rfl ?_
  · exact fun j u hu => World.news_of_block hB j u (by simpa using hu)
  · unfold maxLen; omega
  · omega
  · intro g cap w' h1 h2 h3 _
    refine h g cap w' ?_ h2 h3
    rw [funCells_app]
    have : funCells [y] = funCell y := by simp [funCells]
    rw [this]
    exact h1
end Go.Proofs.YtgjdlloiiedpmaaLiftDoor
