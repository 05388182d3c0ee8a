/- A code that the call itself builds: a code that lies in memory is appended, of whatever length. No condition. -/
import Derived.Test.YtgjdlloiiedpmaaLiftDoorRowL
import Derived.Laws.AppendOwnNone
namespace Go.Proofs.YtgjdlloiiedpmaaLiftDoor
open Go.RowKit

theorem add_plain (b off i : Nat) : (⟨b, off, none⟩ : Addr).add i = ⟨b, off + i, none⟩ := by
  unfold Addr.add
  by_cases h : i = 0
  · simp [h]
  · simp [h]
theorem cellsOne (x : SIns) : ∀ u ∈ insCells [x], u.oneCell' = true := insCells_one [x]
/-- A code that lies in memory, behind a row of the call's own that is not empty. -/
theorem list_pushO {ops : Array Oper} {rest : List Oper} {o : Oper} {a : Act} {Q : Exit → Act → World → Prop} {w : World} (s x : Operand) (hgd : o.guard = none)
    (ho : o.op = .call { callee := .builtin .append, args := #[s, x], argTypes := #[31, 31] })
    (base B : Nat) (v xv : Value) (l ys : List SIns) (hs : a.eval s = v) (hx : a.eval x = xv) (hy : CodeAt B w xv ys) (hown : RowC base v l w) (hl0 : 0 < l.length)
    (hl : l.length ≤ 1000000) (hyl : ys.length ≤ 1000000) (hbase : base ≤ w.heap.size) (hnil : xv = .slice none ys.length 0 → ys = []) (hcap : ∀ c, xv = .slice none ys.length c → c = 0)
    (h : ∀ g cap w', RowC base (.slice (some ⟨g, 0, none⟩) (l.length + ys.length) cap) (l ++ ys) w' → w.grownBy w' v.ownBlock → wpList Tryl.prog ops Q rest (a.put o.dst (.slice (some ⟨g, 0, none⟩) (l.length + ys.length) cap)) w') : wpList Tryl.prog ops Q (o :: rest) a w := by
  obtain ⟨i0, hi, hz0, hz1, hz2⟩ := info_parts infoIns
  obtain ⟨ao, cap, rfl, c1, c2, c3⟩ := hy.ex
  cases ao with
  | none =>
    obtain rfl := hcap cap rfl
    obtain rfl := hnil rfl
    refine wpList_append_own_none hgd s x 31 ho base 29 i0 2 Tryl.underlying31 hi v l.length (insCells l) hs hown.own hx ?_
    obtain ⟨g, cap, rfl, hg1, hg2⟩ := hown.own.form hl0
    have := h g cap w
    simp only [List.length_nil, Nat.add_zero, List.append_nil] at this
    exact this hown ⟨rfl, rfl, rfl, Nat.le_refl _, fun _ _ _ => rfl⟩
  | some ad =>
    refine wpList_append_own_at w hgd s x 31 ho base 29 i0 (.agg #[.int .i64 0, .int .i64 0]) 2 16 Tryl.underlying31 hi hz0 hz1 hz2 rfl (by decide) v l.length (insCells l) hs hown.own ad ys.length cap (insCells ys) hx (insCells_len ys) ?_ (insCells_one ys) ?_ ?_ hbase ?_
    · intro j u hu
      have hp : 0 < ys.length := by
        cases ys with
        | nil => simp [insCells] at hu
        | cons _ _ => simp
      obtain ⟨b, off, _, he, hc⟩ := c3 hp
      cases he
      have hj : j < ys.length * 2 := by
        rcases Nat.lt_or_ge j (insCells ys).length with g | g
        · rw [insCells_len] at g; exact g
        · rw [List.getElem?_eq_none g] at hu; cases hu
      have hk : j / 2 < ys.length := by omega
      obtain ⟨y, hy2⟩ : ∃ y, ys[j / 2]? = some y := ⟨_, List.getElem?_eq_getElem hk⟩
      obtain ⟨e0, e1⟩ := hc (j / 2) y hy2
      obtain ⟨g0, g1⟩ := insCells_get hy2
      rcases (show j = j / 2 * 2 ∨ j = j / 2 * 2 + 1 by omega) with hj2 | hj2
      · rw [hj2, g0] at hu
        cases hu
        rw [hj2]
        rw [add_plain]; exact e0
      · rw [hj2, g1] at hu
        cases hu
        rw [hj2]
        rw [add_plain, ← Nat.add_assoc]; exact e1
    · unfold maxLen; omega
    · omega
    · intro v' w' h1 h2 _ _
      obtain ⟨g, cap', rfl, _, _⟩ := h1.form (by omega)
      refine h g cap' w' ⟨?_⟩ h2
      rw [List.length_append, insCells_app]
      exact h1
end Go.Proofs.YtgjdlloiiedpmaaLiftDoor
