/- Frames and readings: what a call leaves as it was, block by block; a job in memory. No condition. -/
import Derived.Test.YtgjdlloiiedpmaaLiftDoorNamed
namespace Go.Proofs.YtgjdlloiiedpmaaLiftDoor
open Go.RowKit

/-- The streams as they were; every block that was there is as it was, but for those of X. -/
structure Kp (X : Nat → Prop) (w w' : World) : Prop where
  os : w'.os = w.os
  tape : w'.tape = w.tape
  output : w'.output = w.output
  size : w.heap.size ≤ w'.heap.size
  block : ∀ k, k < w.heap.size → ¬ X k → w'.heap[k]? = w.heap[k]?

def No : Nat → Prop := fun _ => False
theorem Kp.refl (X : Nat → Prop) (w : World) : Kp X w w := ⟨rfl, rfl, rfl, Nat.le_refl _, fun _ _ _ => rfl⟩
theorem Kp.trans {X Y : Nat → Prop} {a b c : World} (h : Kp X a b) (k : Kp Y b c) (hy : ∀ i, i < a.heap.size → Y i → X i) : Kp X a c :=
  ⟨k.os.trans h.os, k.tape.trans h.tape, k.output.trans h.output, Nat.le_trans h.size k.size, fun i hi hx =>
    (k.block i (Nat.lt_of_lt_of_le hi h.size) (fun y => hx (hy i hi y))).trans (h.block i hi hx)⟩
theorem Kp.mono {X Y : Nat → Prop} {a b : World} (h : Kp X a b) (hx : ∀ i, i < a.heap.size → X i → Y i) : Kp Y a b :=
  ⟨h.os, h.tape, h.output, h.size, fun i hi hy => h.block i hi (fun x => hy (hx i hi x))⟩
theorem Kp.drewN {X : Nat → Prop} {a b : World} (h : Kp X a b) (n : Nat) : Kp X a (b.drewN n) := ⟨h.os, h.tape, h.output, h.size, h.block⟩
theorem Kp.drew {X : Nat → Prop} {a b : World} (h : Kp X a b) : Kp X a b.drew := ⟨h.os, h.tape, h.output, h.size, h.block⟩
theorem Kp.alloc {X : Nat → Prop} {a b : World} (h : Kp X a b) (o : Obj) : Kp X a (b.alloc o) :=
  ⟨h.os, h.tape, h.output, Nat.le_trans h.size (by simp), fun i hi hx => (Below.heap_alloc _ _ _ (Nat.lt_of_lt_of_le hi h.size)).trans (h.block i hi hx)⟩
theorem Kp.setCell {X : Nat → Prop} {a b : World} (h : Kp X a b) (p : Addr) (v : Value) (hp : p.block < a.heap.size → X p.block) : Kp X a (b.setCell p v) :=
  ⟨h.os, h.tape, h.output, Nat.le_trans h.size (by simp [World.setCell]), fun i hi hx =>
    (Below.heap_setCell _ _ _ _ (fun e => hx (by subst e; exact hp hi))).trans (h.block i hi hx)⟩
theorem Kp.of_below {B : Nat} {a b : World} (h : Below B a b) : Kp (B ≤ ·) a b := ⟨h.os, h.tape, h.output, h.size, fun i _ hx => h.block i (Nat.lt_of_not_le hx)⟩
theorem Kp.of_new {a b : World} (h : Below a.heap.size a b) : Kp No a b := ⟨h.os, h.tape, h.output, h.size, fun i hi _ => h.block i hi⟩
theorem Kp.below {X : Nat → Prop} {a b : World} (h : Kp X a b) {B : Nat} (hB : B ≤ a.heap.size) (hx : ∀ i, X i → B ≤ i) : Below B a b :=
  ⟨h.os, h.tape, h.output, h.size, fun i hi => h.block i (by omega) (fun x => absurd (hx i x) (by omega))⟩
theorem Kp.new {a b : World} (h : Kp No a b) : Below a.heap.size a b := h.below (Nat.le_refl _) (fun _ x => x.elim)
theorem Kp.cell {X : Nat → Prop} {a b : World} (h : Kp X a b) {p : Addr} {v : Value} (hv : a.cell? p = some v) (hx : ¬ X p.block) : b.cell? p = some v :=
  (World.cell?_of_block (w := a) (h.block p.block (World.block_lt_of_cell? _ _ hv) hx)).trans hv
theorem Kp.blk {X : Nat → Prop} {a b : World} (h : Kp X a b) {k : Nat} {o : Obj} (ho : a.heap[k]? = some o) (hx : ¬ X k) : b.heap[k]? = some o :=
  (h.block k (lt_of_block ho) hx).trans ho

/-- A block known whole. -/
theorem cell_blk {w : World} {b : Nat} {cs : Array Value} {t : TypeId} (h : w.heap[b]? = some (.cells cs t (0, 0))) (j : Nat) {v : Value} (hj : cs[j]? = some v) : w.cell? ⟨b, j, none⟩ = some v := by
  simp [World.cell?, h, hj]
theorem free_blk {w : World} {b : Nat} {cs : Array Value} {t : TypeId} (h : w.heap[b]? = some (.cells cs t (0, 0))) (j : Nat) : w.frozen? ⟨b, j, none⟩ = false := by
  simp [World.frozen?, h]
theorem blk_setCell {w : World} {b : Nat} {cs : Array Value} {t : TypeId} (h : w.heap[b]? = some (.cells cs t (0, 0))) (j : Nat) (u : Value) : (w.setCell ⟨b, j, none⟩ u).heap[b]? = some (.cells (cs.setIfInBounds j u) t (0, 0)) := by
  have hlt := lt_of_block h
  have h' : w.heap[b] = .cells cs t (0, 0) := by simpa [Array.getElem?_eq_getElem hlt] using h
  show (w.heap.modify b _)[b]? = _
  rw [Array.getElem?_eq_getElem (by simpa using hlt), Array.getElem_modify_self, h']
  rfl
theorem blk_other {w : World} {b : Nat} {o : Obj} (h : w.heap[b]? = some o) (p : Addr) (hp : b ≠ p.block) (u : Value) : (w.setCell p u).heap[b]? = some o :=
  (Below.heap_setCell _ _ _ _ hp).trans h
theorem blk_alloc {w : World} {b : Nat} {o : Obj} (h : w.heap[b]? = some o) (o' : Obj) : (w.alloc o').heap[b]? = some o :=
  (Below.heap_alloc _ _ _ (lt_of_block h)).trans h
theorem blk_new (w : World) (o : Obj) (b : Nat) (hb : b = w.heap.size) : (w.alloc o).heap[b]? = some o := by
  subst hb; show (w.heap.push o)[_]? = _; simp

/-- A function's code, below block B: a slice value whose elements lie in pairs. -/
structure CodeAt (B : Nat) (w : World) (v : Value) (l : List SIns) : Prop where
  ex : ∃ ao cap, v = .slice ao l.length cap ∧ l.length ≤ cap ∧ cap ≤ 9223372036854775807 ∧ (0 < l.length → ∃ b o, b < B ∧ ao = some ⟨b, o, none⟩ ∧
    ∀ j x, l[j]? = some x → w.cell? ⟨b, o + j * 2, none⟩ = some (.int .i64 x.op) ∧ w.cell? ⟨b, o + j * 2 + 1, none⟩ = some (.int .i64 x.n))
/-- The functions of a job, below block B. -/
structure FuncsAt (B : Nat) (w : World) (v : Value) (l : List SFunc) : Prop where
  ex : ∃ ao cap, v = .slice ao l.length cap ∧ l.length ≤ cap ∧ cap ≤ 9223372036854775807 ∧ (0 < l.length → ∃ b o, b < B ∧ ao = some ⟨b, o, none⟩ ∧
    ∀ j f, l[j]? = some f → f.name.size ≤ 9223372036854775807 ∧ w.cell? ⟨b, o + j * 4, none⟩ = some (.string f.name) ∧ w.cell? ⟨b, o + j * 4 + 1, none⟩ = some (.int .i64 f.args) ∧
      w.cell? ⟨b, o + j * 4 + 2, none⟩ = some (.int .i64 f.locals) ∧ ∃ cv, w.cell? ⟨b, o + j * 4 + 3, none⟩ = some cv ∧ CodeAt B w cv f.code)
theorem CodeAt.to {B : Nat} {w w' : World} {v : Value} {l : List SIns} (h : CodeAt B w v l) (hb : Below B w w') : CodeAt B w' v l := by
  obtain ⟨ao, cap, hv, h1, h2, h3⟩ := h.ex
  refine ⟨ao, cap, hv, h1, h2, fun hp => ?_⟩
  obtain ⟨b, o, hlt, ha, hc⟩ := h3 hp
  exact ⟨b, o, hlt, ha, fun j x hx => ⟨(hb.cell (p := ⟨b, _, none⟩) hlt).trans (hc j x hx).1, (hb.cell (p := ⟨b, _, none⟩) hlt).trans (hc j x hx).2⟩⟩
theorem FuncsAt.to {B : Nat} {w w' : World} {v : Value} {l : List SFunc} (h : FuncsAt B w v l) (hb : Below B w w') : FuncsAt B w' v l := by
  obtain ⟨ao, cap, hv, h1, h2, h3⟩ := h.ex
  refine ⟨ao, cap, hv, h1, h2, fun hp => ?_⟩
  obtain ⟨b, o, hlt, ha, hc⟩ := h3 hp
  refine ⟨b, o, hlt, ha, fun j f hf => ?_⟩
  obtain ⟨h0, c0, c1, c2, cv, c3, hk⟩ := hc j f hf
  exact ⟨h0, (hb.cell (p := ⟨b, _, none⟩) hlt).trans c0, (hb.cell (p := ⟨b, _, none⟩) hlt).trans c1, (hb.cell (p := ⟨b, _, none⟩) hlt).trans c2, cv, (hb.cell (p := ⟨b, _, none⟩) hlt).trans c3, hk.to hb⟩
/-- A slice of ints, below block B. -/
structure IntsAt (B : Nat) (w : World) (v : Value) (l : List Int) : Prop where
  ex : ∃ ao cap, v = .slice ao l.length cap ∧ l.length ≤ cap ∧ cap ≤ 9223372036854775807 ∧ (0 < l.length → ∃ b o, b < B ∧ ao = some ⟨b, o, none⟩ ∧
    ∀ j x, l[j]? = some x → w.cell? ⟨b, o + j, none⟩ = some (.int .i64 x))
theorem IntsAt.to {B : Nat} {w w' : World} {v : Value} {l : List Int} (h : IntsAt B w v l) (hb : Below B w w') : IntsAt B w' v l := by
  obtain ⟨ao, cap, hv, h1, h2, h3⟩ := h.ex
  refine ⟨ao, cap, hv, h1, h2, fun hp => ?_⟩
  obtain ⟨b, o, hlt, ha, hc⟩ := h3 hp
  exact ⟨b, o, hlt, ha, fun j x hx => (hb.cell (p := ⟨b, _, none⟩) hlt).trans (hc j x hx)⟩
theorem IntsAt.row {B : Nat} {w : World} {v : Value} {l : List Int} (h : IntsAt B w v l) : RowAt w v l.length (ints l) := by
  obtain ⟨ao, cap, hv, h1, h2, h3⟩ := h.ex
  refine ⟨ao, cap, hv, h1, h2, fun hp => ?_⟩
  obtain ⟨b, o, hlt, ha, hc⟩ := h3 (by cases l with | nil => exact absurd rfl hp | cons _ _ => simp)
  refine ⟨b, o, ha, fun j x hx => ?_⟩
  simp only [ints, List.getElem?_map, Option.map_eq_some_iff] at hx
  obtain ⟨y, hy, rfl⟩ := hx
  exact hc j y hy
end Go.Proofs.YtgjdlloiiedpmaaLiftDoor
