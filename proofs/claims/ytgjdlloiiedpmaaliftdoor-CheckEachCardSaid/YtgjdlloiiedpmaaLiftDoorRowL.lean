/- A code that the call itself builds: several instructions at once; from a literal. No condition. -/
import Derived.Test.YtgjdlloiiedpmaaLiftDoorRowC
import Derived.Laws.OwnMore
namespace Go.Proofs.YtgjdlloiiedpmaaLiftDoor
open Go.RowKit

theorem insCells_one (l : List SIns) : ∀ u ∈ insCells l, u.oneCell' = true := by
  intro u hu
  obtain ⟨x, _, hx⟩ := List.mem_flatMap.1 hu
  simp only [SIns.cells, List.mem_cons, List.mem_nil_iff, or_false] at hx
  rcases hx with rfl | rfl <;> rfl
/-- Several instructions more. -/
theorem list_pushL {ops : Array Oper} {rest : List Oper} {o : Oper} {a : Act} {Q : Exit → Act → World → Prop} {w : World} (s x : Operand) (hgd : o.guard = none)
    (ho : o.op = .call { callee := .builtin .append, args := #[s, x], argTypes := #[31, 31] })
    (base : Nat) (v : Value) (l ys : List SIns) (B m cp : Nat) (hm : m = ys.length) (hs : a.eval s = v) (hx : a.eval x = .slice (some ⟨B, 0, none⟩) m cp) (hB : w.heap[B]? = some (.cells (insCells ys).toArray 29 (0, 0))) (hown : RowC base v l w)
    (hl : l.length ≤ 1000000) (hy0 : 0 < ys.length) (hy : ys.length ≤ 1000000) (hbase : base ≤ w.heap.size)
    (h : ∀ g cap w', RowC base (.slice (some ⟨g, 0, none⟩) (l.length + m) cap) (l ++ ys) w' → w.grownBy w' v.ownBlock → (v.ownBlock = some g ∨ g = w.heap.size) → wpList Tryl.prog ops Q rest (a.put o.dst (.slice (some ⟨g, 0, none⟩) (l.length + m) cap)) w') : wpList Tryl.prog ops Q (o :: rest) a w := by
  subst hm
  obtain ⟨i0, hi, hz0, hz1, hz2⟩ := info_parts infoIns
  refine wpList_append_lies w hgd s x 31 ho base 29 i0 (.agg #[.int .i64 0, .int .i64 0]) 2 16 Tryl.underlying31 hi hz0 hz1 hz2 rfl (by decide) v l.length (insCells l) hs hown.own ⟨B, 0, none⟩ ys.length cp (insCells ys) hx (insCells_len ys) ?_ (insCells_one ys) hy0 ?_ ?_ hbase _ rfl ?_
  · exact fun j u hu => World.news_of_block hB j u (by simpa using hu)
  · unfold maxLen; omega
  · omega
  · intro g cap w' h1 h2 h3 _
    refine h g cap w' ⟨?_⟩ h2 h3
    rw [List.length_append, insCells_app]
    exact h1
/-- A literal. -/
theorem rowC_lit (w : World) (base : Nat) (ys : List SIns) (hb : base ≤ w.heap.size) (hy : ys.length ≤ 1000000) : RowC base (.slice (some ⟨w.heap.size, 0, none⟩) ys.length ys.length) ys (w.alloc (.cells (insCells ys).toArray 29)) := by
  refine ⟨?_⟩
  have := World.ownsRow_lit (base := base) (e := 29) (size := 2) w (insCells ys).toArray ys.length hb (by unfold maxLen; omega) (by simp [insCells_len])
  simpa using this
end Go.Proofs.YtgjdlloiiedpmaaLiftDoor
