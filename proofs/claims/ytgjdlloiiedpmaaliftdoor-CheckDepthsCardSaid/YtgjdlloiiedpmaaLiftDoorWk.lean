/- The walker and the checker in memory, as one. No condition. -/
import Derived.Test.YtgjdlloiiedpmaaLiftDoorArr
import Derived.Lib.QuietBelow
namespace Go.Proofs.YtgjdlloiiedpmaaLiftDoor
open Go.RowKit

/-- What never turns while a function is gone over. -/
structure WkC where
  B : Nat
  wb : Nat
  cb : Nat
  db : Nat
  gb : Nat
  dcap : Nat
  gcap : Nat
  nm : ByteArray
  fa : Int
  fl : Int
  cao : Option Addr
  ccap : Nat
  fao : Option Addr
  fcap : Nat
  av : Value
  J : SJob
  f : Int
  code : List SIns
  distinct : wb ≠ cb ∧ wb ≠ db ∧ wb ≠ gb ∧ cb ≠ db ∧ cb ≠ gb ∧ db ≠ gb
  above : B ≤ wb ∧ B ≤ cb ∧ B ≤ db ∧ B ≤ gb
  short : code.length ≤ 256
  few : J.funcs.length ≤ 9223372036854775807

def WkC.fv (s : WkC) : Value := .slice s.fao s.J.funcs.length s.fcap
def WkC.cv (s : WkC) : Value := .slice s.cao s.code.length s.ccap

structure Wk (s : WkC) (i : Int) (D : List Int) (G : List Bool) (w : World) : Prop where
  hw : w.heap[s.wb]? = some (.cells (wkCells s.nm s.fa s.fl (.slice s.cao s.code.length s.ccap) s.cb (.slice (some ⟨s.db, 0, none⟩) s.code.length s.dcap) (.slice (some ⟨s.gb, 0, none⟩) s.code.length s.gcap)) 56 (0, 0))
  hc : w.heap[s.cb]? = some (.cells (ckCells (.slice s.fao s.J.funcs.length s.fcap) s.av s.J s.f i) 49 (0, 0))
  aD : ArrAt w s.db (ints D)
  aG : ArrAt w s.gb (bools G)
  fu : FuncsAt s.B w s.fv s.J.funcs
  co : CodeAt s.B w s.cv s.code
  lD : D.length = s.code.length
  lG : G.length = s.code.length
  hB : s.B ≤ w.heap.size

theorem Wk.kp {s : WkC} {i : Int} {D : List Int} {G : List Bool} {w w' : World} (h : Wk s i D G w) (k : Kp No w w') : Wk s i D G w' :=
  ⟨k.blk h.hw (fun x => x), k.blk h.hc (fun x => x), h.aD.kp k (fun x => x), h.aG.kp k (fun x => x), h.fu.to (k.below h.hB (fun _ x => x.elim)), h.co.to (k.below h.hB (fun _ x => x.elim)), h.lD, h.lG, Nat.le_trans h.hB k.size⟩
theorem Wk.to_of {s : WkC} {i : Int} {D : List Int} {G : List Bool} {w w' : World} (h : Wk s i D G w) (b : Below w.heap.size w w') : Wk s i D G w' := h.kp (Kp.of_new b)
theorem below_set {B : Nat} {w : World} {p : Addr} (hp : B ≤ p.block) (v : Value) : Below B w (w.setCell p v) := (Below.refl _ _).setCell hp v
theorem Wk.setI {s : WkC} {i : Int} {D : List Int} {G : List Bool} {w : World} (h : Wk s i D G w) (x : Int) : Wk s x D G (w.setCell ⟨s.cb, 6, none⟩ (.int .i64 x)) :=
  ⟨blk_other h.hw _ s.distinct.1 _, by rw [blk_setCell h.hc 6 (.int .i64 x)]; rfl, h.aD.other (Ne.symm s.distinct.2.2.2.1) _, h.aG.other (Ne.symm s.distinct.2.2.2.2.1) _,
    h.fu.to (below_set s.above.2.1 _), h.co.to (below_set s.above.2.1 _), h.lD, h.lG, by simpa [World.setCell] using h.hB⟩
theorem Wk.setD {s : WkC} {i : Int} {D : List Int} {G : List Bool} {w : World} (h : Wk s i D G w) (k : Nat) (x : Int) : Wk s i (D.set k x) G (w.setCell ⟨s.db, k, none⟩ (.int .i64 x)) :=
  ⟨blk_other h.hw _ s.distinct.2.1 _, blk_other h.hc _ s.distinct.2.2.2.1 _, by rw [← ints_set]; exact h.aD.set k _, h.aG.other (Ne.symm s.distinct.2.2.2.2.2) _,
    h.fu.to (below_set s.above.2.2.1 _), h.co.to (below_set s.above.2.2.1 _), by simpa using h.lD, h.lG, by simpa [World.setCell] using h.hB⟩
theorem Wk.setG {s : WkC} {i : Int} {D : List Int} {G : List Bool} {w : World} (h : Wk s i D G w) (k : Nat) (x : Bool) : Wk s i D (G.set k x) (w.setCell ⟨s.gb, k, none⟩ (.bool x)) :=
  ⟨blk_other h.hw _ s.distinct.2.2.1 _, blk_other h.hc _ s.distinct.2.2.2.2.1 _, h.aD.other s.distinct.2.2.2.2.2 _, by rw [← bools_set]; exact h.aG.set k _,
    h.fu.to (below_set s.above.2.2.2 _), h.co.to (below_set s.above.2.2.2 _), h.lD, by simpa using h.lG, by simpa [World.setCell] using h.hB⟩

/-- The cells that a walk wants, at once. -/
structure WkCells (s : WkC) (i : Int) (w : World) : Prop where
  w3 : w.cell? ⟨s.wb, 3, none⟩ = some (.slice s.cao s.code.length s.ccap)
  w4 : w.cell? ⟨s.wb, 4, none⟩ = some (.pointer (some ⟨s.cb, 0, none⟩))
  w5 : w.cell? ⟨s.wb, 5, none⟩ = some (.slice (some ⟨s.db, 0, none⟩) s.code.length s.dcap)
  w6 : w.cell? ⟨s.wb, 6, none⟩ = some (.slice (some ⟨s.gb, 0, none⟩) s.code.length s.gcap)
  c0 : w.cell? ⟨s.cb, 0, none⟩ = some (.slice s.fao s.J.funcs.length s.fcap)
  c5 : w.cell? ⟨s.cb, 5, none⟩ = some (.int .i64 s.f)
  c6 : w.cell? ⟨s.cb, 6, none⟩ = some (.int .i64 i)
  f6 : w.frozen? ⟨s.cb, 6, none⟩ = false
  lw : s.wb < w.heap.size
  lc : s.cb < w.heap.size
  ld : s.db < w.heap.size
  lg : s.gb < w.heap.size
theorem Wk.cells {s : WkC} {i : Int} {D : List Int} {G : List Bool} {w : World} (h : Wk s i D G w) : WkCells s i w :=
  ⟨cell_blk h.hw 3 rfl, cell_blk h.hw 4 rfl, cell_blk h.hw 5 rfl, cell_blk h.hw 6 rfl, cell_blk h.hc 0 rfl, cell_blk h.hc 5 rfl, cell_blk h.hc 6 rfl, free_blk h.hc 6, lt_of_block h.hw, lt_of_block h.hc, h.aD.lt, h.aG.lt⟩

/-- An instruction of the code, in memory. -/
theorem Wk.insAt {s : WkC} {i : Int} {D : List Int} {G : List Bool} {w : World} (h : Wk s i D G w) {k : Nat} {x : SIns} (hx : s.code[k]? = some x) :
    ∃ b o, b < s.B ∧ s.cao = some ⟨b, o, none⟩ ∧ w.cell? ⟨b, o + k * 2, none⟩ = some (.int .i64 x.op) ∧ w.cell? ⟨b, o + k * 2 + 1, none⟩ = some (.int .i64 x.n) := by
  obtain ⟨ao, cap, hv, h1, h2, h3⟩ := h.co.ex
  have hk : k < s.code.length := by
    rcases Nat.lt_or_ge k s.code.length with g | g
    · exact g
    · rw [List.getElem?_eq_none g] at hx; cases hx
  obtain ⟨b, o, hb, ha, hc⟩ := h3 (by omega)
  unfold WkC.cv at hv
  injection hv with e1 e2 e3
  exact ⟨b, o, hb, e1.trans ha, hc k x hx⟩

/-- How many arguments the function has that a spawn names (0: there is none). -/
def argsOf (fs : List SFunc) (n : Int) : Int := (fs[n.toNat]?.map (·.args)).getD 0
theorem Wk.argsAt {s : WkC} {i : Int} {D : List Int} {G : List Bool} {w : World} (h : Wk s i D G w) (op n : Int) :
    op = 16 → 0 ≤ n → n < (s.J.funcs.length : Int) → ∃ b o, s.fao = some ⟨b, o, none⟩ ∧ w.cell? ⟨b, o + n.toNat * 4 + 1, none⟩ = some (.int .i64 (argsOf s.J.funcs n)) := by
  intro _ h0 h1
  obtain ⟨ao, cap, hv, g1, g2, g3⟩ := h.fu.ex
  obtain ⟨b, o, hb, ha, hc⟩ := g3 (by omega)
  unfold WkC.fv at hv
  injection hv with e1 e2 e3
  have hlt : n.toNat < s.J.funcs.length := by omega
  have := (hc n.toNat _ (List.getElem?_eq_getElem hlt)).2.2.1
  refine ⟨b, o, e1.trans ha, ?_⟩
  rw [this]; unfold argsOf; rw [List.getElem?_eq_getElem hlt]; rfl
end Go.Proofs.YtgjdlloiiedpmaaLiftDoor
