/- What a job among the arguments reads as: opened down to its instructions. No condition. -/
import Derived.Test.YtgjdlloiiedpmaaLiftDoorCheck
import Derived.Test.YtgjdlloiiedpmaaLiftDoorLaw
import Derived.Deep.Slices
namespace Go.Proofs.YtgjdlloiiedpmaaLiftDoor
open Go.ChangeShapes Go.WideShapes Go.RowKit

section
variable {H : Type} {enc : TypeId × Value → H} {W : World} {spare : Nat → Bool} {held : Bool}
theorem intU : Tryl.prog.underlying 3 = some (.int .i64) := Tryl.underlying3
theorem choose_fn {α : Type} [Inhabited α] {n : Nat} {p : Nat → α → Prop} (h : ∀ i, i < n → ∃ x, p i x) : ∃ f : Nat → α, ∀ i, i < n → p i (f i) := Go.Deep.choose_lt h
instance : Inhabited SIns := ⟨⟨0, 0⟩⟩
instance : Inhabited SFunc := ⟨⟨⟨#[]⟩, 0, 0, []⟩⟩

theorem list2 {α : Type} {l : List α} (h : l.length = 2) : ∃ a b, l = [a, b] := by
  match l, h with
  | [a, b], _ => exact ⟨a, b, rfl⟩
theorem list4 {α : Type} {l : List α} (h : l.length = 4) : ∃ a b c d, l = [a, b, c, d] := by
  match l, h with
  | [a, b, c, d], _ => exact ⟨a, b, c, d, rfl⟩
theorem list5 {α : Type} {l : List α} (h : l.length = 5) : ∃ a b c d e, l = [a, b, c, d, e] := by
  match l, h with
  | [a, b, c, d, e], _ => exact ⟨a, b, c, d, e, rfl⟩
set_option maxRecDepth 10000 in
theorem read_ins {n : Nat} {cs : List Value} {x : DataW H × List MemPlace} (h : DataW.trod enc Tryl.prog W 0 spare held n 29 cs = some x) : ∃ y : SIns, cs = [.int .i64 y.op, .int .i64 y.n] := by
  obtain ⟨xs, k, _, _, hl, hxl, hf⟩ := DataW.trod_struct Tryl.underlying29 h
  have hc : Tryl.prog.cellsOf 29 = 2 := by kernel_rfl
  have c1 : Tryl.prog.cellsOf 3 = 1 := by kernel_rfl
  rw [hc] at hl
  obtain ⟨y0, y1, rfl⟩ := list2 (show xs.length = 2 from hxl)
  obtain ⟨v0, v1, rfl⟩ := list2 hl
  have g0 := hf 0 _ rfl
  have g1 := hf 1 _ rfl
  simp [c1] at g0 g1
  obtain ⟨n0, e0, _⟩ := DataW.trod_int intU g0
  obtain ⟨n1, e1, _⟩ := DataW.trod_int intU g1
  simp only [List.cons.injEq, and_true] at e0 e1
  exact ⟨⟨n0, n1⟩, by rw [e0, e1]⟩
theorem addr_plain {a : Addr} {v : Value} (h : W.cell? (a.add 0) = some v) : ∃ b o, a = ⟨b, o, none⟩ := by
  obtain ⟨b, o, th⟩ := a
  have : th = none := by simpa [Addr.add] using World.cell?_spot h
  exact ⟨b, o, by rw [this]⟩
theorem add_pl (b o i : Nat) : (⟨b, o, none⟩ : Addr).add i = ⟨b, o + i, none⟩ := Go.WideShapes.add_plain _ _ _

theorem read_code {n : Nat} {c : Value} {x : DataW H × List MemPlace} (h : DataW.trod enc Tryl.prog W 0 spare held n 31 [c] = some x) : ∃ l, CodeAt W.heap.size W c l := by
  rcases Go.Deep.open_slice Tryl.underlying31 h with ⟨hv, _⟩ | ⟨a, len, cap, m, n', D, Pl, hv, _, hl, hm, hmm, _, hx⟩
  · cases hv; exact ⟨[], CodeAt.nil _ _⟩
  · cases hv
    have hc : Tryl.prog.cellsOf 29 = 2 := by kernel_rfl
    have hlm : len ≤ m := by rw [hmm]; split <;> omega
    have key : ∀ i, i < len → ∃ y : SIns, W.cell? (a.add (i * 2)) = some (.int .i64 y.op) ∧ W.cell? (a.add (i * 2 + 1)) = some (.int .i64 y.n) := by
      intro i hi
      obtain ⟨cs', h1, h2⟩ := hx i (by omega)
      rw [hc] at h1
      obtain ⟨y, rfl⟩ := read_ins h2
      obtain ⟨_, hlen, hcell⟩ := World.cells?_some h1
      have e0 := hcell 0 (by omega)
      have e1 := hcell 1 (by omega)
      rw [Go.Deep.add_add] at e0 e1
      exact ⟨y, by simpa using e0, by simpa using e1⟩
    obtain ⟨f, hf⟩ := choose_fn key
    have hll : ((List.range len).map f).length = len := by simp
    refine ⟨(List.range len).map f, ⟨some a, cap, by rw [hll], by rw [hll]; exact hl, hm, fun hp => ?_⟩⟩
    rw [hll] at hp
    have h00 := (hf 0 hp).1
    rw [Nat.zero_mul] at h00
    obtain ⟨b, o, rfl⟩ := addr_plain h00
    refine ⟨b, o, ?_, rfl, fun j y hj => ?_⟩
    · have := World.block_lt_of_cell? _ _ h00
      simpa [Addr.add] using this
    · have hjl : j < len := by
        rcases Nat.lt_or_ge j len with g | g
        · exact g
        · rw [List.getElem?_eq_none (by rw [hll]; exact g)] at hj; cases hj
      have hxj : f j = y := by
        rw [List.getElem?_map, List.getElem?_range hjl] at hj
        exact Option.some.inj hj
      obtain ⟨g0, g1⟩ := hf j hjl
      rw [add_pl, hxj] at g0 g1
      exact ⟨g0, by rw [Nat.add_assoc]; exact g1⟩
theorem read_ints {n : Nat} {c : Value} {x : DataW H × List MemPlace} (h : DataW.trod enc Tryl.prog W 0 spare held n 24 [c] = some x) : ∃ l, IntsAt W.heap.size W c l := by
  rcases Go.Deep.open_slice1 Tryl.underlying24 (by kernel_rfl) h with ⟨hv, _⟩ | ⟨a, len, cap, m, n', V, D, Pl, hv, _, hl, hm, hmm, _, hx⟩
  · cases hv; exact ⟨[], IntsAt.nil _ _⟩
  · cases hv
    have hlm : len ≤ m := by rw [hmm]; split <;> omega
    have key : ∀ i, i < len → ∃ y : Int, W.cell? (a.add i) = some (.int .i64 y) := by
      intro i hi
      obtain ⟨h1, h2⟩ := hx i (by omega)
      obtain ⟨y, e, _⟩ := DataW.trod_int intU h2
      simp only [List.cons.injEq, and_true] at e
      exact ⟨y, by rw [h1, e]⟩
    obtain ⟨f, hf⟩ := choose_fn key
    have hll : ((List.range len).map f).length = len := by simp
    refine ⟨(List.range len).map f, ⟨some a, cap, by rw [hll], by rw [hll]; exact hl, hm, fun hp => ?_⟩⟩
    rw [hll] at hp
    have h00 := hf 0 hp
    obtain ⟨b, o, rfl⟩ := addr_plain h00
    refine ⟨b, o, ?_, rfl, fun j y hj => ?_⟩
    · have := World.block_lt_of_cell? _ _ h00
      simpa [Addr.add] using this
    · have hjl : j < len := by
        rcases Nat.lt_or_ge j len with g | g
        · exact g
        · rw [List.getElem?_eq_none (by rw [hll]; exact g)] at hj; cases hj
      have hxj : f j = y := by
        rw [List.getElem?_map, List.getElem?_range hjl] at hj
        exact Option.some.inj hj
      have g0 := hf j hjl
      rw [add_pl, hxj] at g0
      exact g0
set_option maxRecDepth 10000 in
theorem read_func {n : Nat} {cs : List Value} {x : DataW H × List MemPlace} (h : DataW.trod enc Tryl.prog W 0 spare held n 33 cs = some x) :
    ∃ (F : SFunc) (cv : Value), cs = [.string F.name, .int .i64 F.args, .int .i64 F.locals, cv] ∧ F.name.size ≤ 9223372036854775807 ∧ CodeAt W.heap.size W cv F.code := by
  obtain ⟨xs, k, _, _, hl, hxl, hf⟩ := DataW.trod_struct Tryl.underlying33 h
  have hc : Tryl.prog.cellsOf 33 = 4 := by kernel_rfl
  have c1 : Tryl.prog.cellsOf 3 = 1 := by kernel_rfl
  have c2 : Tryl.prog.cellsOf 9 = 1 := by kernel_rfl
  have c3 : Tryl.prog.cellsOf 31 = 1 := by kernel_rfl
  rw [hc] at hl
  obtain ⟨y0, y1, y2, y3, rfl⟩ := list4 (show xs.length = 4 from hxl)
  obtain ⟨v0, v1, v2, v3, rfl⟩ := list4 hl
  have g0 := hf 0 _ rfl
  have g1 := hf 1 _ rfl
  have g2 := hf 2 _ rfl
  have g3 := hf 3 _ rfl
  simp [c1, c2, c3] at g0 g1 g2 g3
  obtain ⟨s, e0, _, hs⟩ := DataW.trod_string Tryl.underlying9 g0
  obtain ⟨n1, e1, _⟩ := DataW.trod_int intU g1
  obtain ⟨n2, e2, _⟩ := DataW.trod_int intU g2
  obtain ⟨l, hcode⟩ := read_code g3
  simp only [List.cons.injEq, and_true] at e0 e1 e2
  exact ⟨⟨s, n1, n2, l⟩, v3, by rw [e0, e1, e2], hs, hcode⟩
theorem read_funcs {n : Nat} {c : Value} {x : DataW H × List MemPlace} (h : DataW.trod enc Tryl.prog W 0 spare held n 23 [c] = some x) : ∃ l, FuncsAt W.heap.size W c l := by
  rcases Go.Deep.open_slice Tryl.underlying23 h with ⟨hv, _⟩ | ⟨a, len, cap, m, n', D, Pl, hv, _, hl, hm, hmm, _, hx⟩
  · cases hv; exact ⟨[], none, 0, rfl, Nat.le_refl _, by decide, fun h => absurd h (by decide)⟩
  · cases hv
    have hc : Tryl.prog.cellsOf 33 = 4 := by kernel_rfl
    have hlm : len ≤ m := by rw [hmm]; split <;> omega
    have key : ∀ i, i < len → ∃ F : SFunc, F.name.size ≤ 9223372036854775807 ∧ W.cell? (a.add (i * 4)) = some (.string F.name) ∧ W.cell? (a.add (i * 4 + 1)) = some (.int .i64 F.args) ∧ W.cell? (a.add (i * 4 + 2)) = some (.int .i64 F.locals) ∧ ∃ cv, W.cell? (a.add (i * 4 + 3)) = some cv ∧ CodeAt W.heap.size W cv F.code := by
      intro i hi
      obtain ⟨cs', h1, h2⟩ := hx i (by omega)
      rw [hc] at h1
      obtain ⟨F, cv, rfl, hs, hcode⟩ := read_func h2
      obtain ⟨_, hlen, hcell⟩ := World.cells?_some h1
      have e0 := hcell 0 (by omega)
      have e1 := hcell 1 (by omega)
      have e2 := hcell 2 (by omega)
      have e3 := hcell 3 (by omega)
      rw [Go.Deep.add_add] at e0 e1 e2 e3
      exact ⟨F, hs, by simpa using e0, by simpa using e1, by simpa using e2, cv, by simpa using e3, hcode⟩
    obtain ⟨f, hf⟩ := choose_fn key
    have hll : ((List.range len).map f).length = len := by simp
    refine ⟨(List.range len).map f, ⟨some a, cap, by rw [hll], by rw [hll]; exact hl, hm, fun hp => ?_⟩⟩
    rw [hll] at hp
    have h00 := (hf 0 hp).2.1
    rw [Nat.zero_mul] at h00
    obtain ⟨b, o, rfl⟩ := addr_plain h00
    refine ⟨b, o, ?_, rfl, fun j y hj => ?_⟩
    · have := World.block_lt_of_cell? _ _ h00
      simpa [Addr.add] using this
    · have hjl : j < len := by
        rcases Nat.lt_or_ge j len with g | g
        · exact g
        · rw [List.getElem?_eq_none (by rw [hll]; exact g)] at hj; cases hj
      have hxj : f j = y := by
        rw [List.getElem?_map, List.getElem?_range hjl] at hj
        exact Option.some.inj hj
      obtain ⟨g, g0, g1, g2, cv, g3, gc⟩ := hf j hjl
      rw [add_pl] at g0 g1 g2 g3
      rw [hxj] at g g0 g1 g2 gc
      exact ⟨g, g0, by rw [Nat.add_assoc]; exact g1, by rw [Nat.add_assoc]; exact g2, cv, by rw [Nat.add_assoc]; exact g3, gc⟩
set_option maxRecDepth 10000 in
theorem read_job {n : Nat} {cs : List Value} {x : DataW H × List MemPlace} (h : DataW.trod enc Tryl.prog W 0 spare held n 26 cs = some x) :
    ∃ (J : SJob) (fv av : Value), cs = [fv, .int .i64 J.main, av, .int .i64 J.fuel, .int .i64 J.tasks] ∧ JobAt W.heap.size W fv av J := by
  obtain ⟨xs, k, _, _, hl, hxl, hf⟩ := DataW.trod_struct Tryl.underlying26 h
  have hc : Tryl.prog.cellsOf 26 = 5 := by kernel_rfl
  have c1 : Tryl.prog.cellsOf 3 = 1 := by kernel_rfl
  have c2 : Tryl.prog.cellsOf 23 = 1 := by kernel_rfl
  have c3 : Tryl.prog.cellsOf 24 = 1 := by kernel_rfl
  rw [hc] at hl
  obtain ⟨y0, y1, y2, y3, y4, rfl⟩ := list5 (show xs.length = 5 from hxl)
  obtain ⟨v0, v1, v2, v3, v4, rfl⟩ := list5 hl
  have g0 := hf 0 _ rfl
  have g1 := hf 1 _ rfl
  have g2 := hf 2 _ rfl
  have g3 := hf 3 _ rfl
  have g4 := hf 4 _ rfl
  simp [c1, c2, c3] at g0 g1 g2 g3 g4
  obtain ⟨fs, hfs⟩ := read_funcs g0
  obtain ⟨n1, e1, _⟩ := DataW.trod_int intU g1
  obtain ⟨al, hal⟩ := read_ints g2
  obtain ⟨n3, e3, _⟩ := DataW.trod_int intU g3
  obtain ⟨n4, e4, _⟩ := DataW.trod_int intU g4
  simp only [List.cons.injEq, and_true] at e1 e3 e4
  exact ⟨⟨fs, n1, al, n3, n4⟩, v0, v2, by rw [e1, e3, e4], ⟨hfs, hal⟩⟩
set_option maxRecDepth 100000 in
theorem open_job {v : Value} {d : DataW H} {ps : List MemPlace} {base : Nat} {r : Reach} (hok : Value.okWide Tryl.prog W r base 26 v) (h : DataW.Trod enc Tryl.prog W 0 spare held 26 v d ps) :
    ∃ (J : SJob) (fv av : Value), v = .agg #[fv, .int .i64 J.main, av, .int .i64 J.fuel, .int .i64 J.tasks] ∧ JobAt W.heap.size W fv av J := by
  obtain ⟨cs, rfl, hsz⟩ := okWide_struct Tryl.underlying26 hok
  obtain ⟨n, hn⟩ := h
  obtain ⟨J, fv, av, he, hj⟩ := read_job hn
  refine ⟨J, fv, av, ?_, hj⟩
  have : cs.toList = [fv, .int .i64 J.main, av, .int .i64 J.fuel, .int .i64 J.tasks] := he
  rw [show cs = cs.toList.toArray by simp, this]
end
end Go.Proofs.YtgjdlloiiedpmaaLiftDoor
