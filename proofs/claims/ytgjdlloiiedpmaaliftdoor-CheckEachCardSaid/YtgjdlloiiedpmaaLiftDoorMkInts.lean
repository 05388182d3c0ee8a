/- 'make([]int, n)': so many noughts, in a new block. No condition. -/
import Derived.Test.YtgjdlloiiedpmaaLiftDoorRowL
import Derived.OwnWalk
namespace Go.Proofs.YtgjdlloiiedpmaaLiftDoor
open Go.RowKit


theorem list_mkInts {ops : Array Oper} {rest : List Oper} {o : Oper} {a : Act} {Q : Exit → Act → World → Prop} {w : World} (l : Operand) (hgd : o.guard = none) (ho : o.op = .makeSlice 24 l l) (n : Nat) (L : Int) (hl : a.eval l = .int .i64 L) (hL : L = (n : Int)) (hn : n ≤ 1000000) (B : Nat) (hB : w.heap.size = B)
    (h : ∀ w', Kp No w w' → (∀ j, j < n → w'.cell? ⟨B, j, none⟩ = some (.int .i64 0)) → B < w'.heap.size → wpList Tryl.prog ops Q rest (a.put o.dst (.slice (some ⟨B, 0, none⟩) n n)) w') : wpList Tryl.prog ops Q (o :: rest) a w := by
  subst hB
  obtain ⟨i0, hi, hz0, hz1, hz2⟩ := info_parts infoInt
  refine wpList_make_full w hgd l l 24 ho w.heap.size 3 i0 (.int .i64 0) 1 Tryl.underlying24 hi hz0 hz1 .i64 .i64 L L n hl hl hL hL (by rw [hz2]; omega) (by unfold maxLen; omega) (Nat.le_refl _) fun w' h1 h2 => ?_
  have hcells : (madeCells (Value.int .i64 0).cells (n * 1)).toList = List.replicate n (.int .i64 0) := by
    have := toList_madeCells_one (.int .i64 0) n
    rw [Nat.mul_one]; exact this
  rw [hcells] at h1
  have hb : ∃ cur : Array Value, w'.heap[w.heap.size]? = some (.cells cur 3 (0, 0)) ∧ cur.toList.take (n * 1) = List.replicate n (.int .i64 0) := by
    rcases h1.2 with ⟨h0, _⟩ | ⟨g, cap, cur, hv, _, hg, _, _, _, ht⟩
    · cases h0
    · cases hv
      exact ⟨cur, hg, by rw [← ht]⟩
  obtain ⟨cur, hg, ht⟩ := hb
  refine h w' ⟨h2.os, h2.tape, h2.output, h2.size, fun i hi _ => h2.block i hi (by simp)⟩ (fun j hj => ?_) (lt_of_block hg)
  refine cell_blk hg j ?_
  have h3 : (cur.toList.take (n * 1))[j]? = some (.int .i64 0) := by rw [ht, List.getElem?_replicate, if_pos hj]
  rw [List.getElem?_take] at h3
  split at h3
  · simpa using h3
  · cases h3
theorem ints_new {w : World} {b n : Nat} (h : ∀ j, j < n → w.cell? ⟨b, j, none⟩ = some (.int .i64 0)) (hb : b < w.heap.size) (hn : n ≤ 1000000) : IntsAt w.heap.size w (.slice (some ⟨b, 0, none⟩) n n) (List.replicate n 0) := by
  refine ⟨some ⟨b, 0, none⟩, n, by simp, by simp, by omega, fun _ => ⟨b, 0, hb, rfl, fun j x hx => ?_⟩⟩
  have hj : j < n := by
    rcases Nat.lt_or_ge j n with g | g
    · exact g
    · rw [List.getElem?_eq_none (by simpa using g)] at hx; cases hx
  rw [List.getElem?_replicate, if_pos hj] at hx
  cases hx
  rw [Nat.zero_add]; exact h j hj
end Go.Proofs.YtgjdlloiiedpmaaLiftDoor
