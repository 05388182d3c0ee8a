/- The reference's depths: the plain words, and what its walk leans on. No condition. -/
import Derived.Test.YtgjdlloiiedpmaaLiftDoorRefB
import Derived.OwnWalk
namespace Go.Proofs.YtgjdlloiiedpmaaLiftDoor
open Go.RowKit

def rstepS (D : List Int) (left n : Int) : Option Int × List Int :=
  if (D.length : Int) ≤ n then (some 11, D)
  else if 0 ≤ D.getD n.toNat (-1) ∧ D.getD n.toNat (-1) ≠ left then (some 12, D) else (none, D.set n.toNat left)
def rstepsS (left : Int) : List Int → List Int → Option Int × List Int
  | [], D => (none, D)
  | n :: r, D => match rstepS D left n with
    | (some e, D') => (some e, D')
    | (none, D') => rstepsS left r D'
def roneS (fs : List SFunc) (code : List SIns) (D : List Int) (k : Nat) : Option Int × List Int :=
  let x := code.getD k ⟨0, 0⟩
  let p := popsS x.op x.n fs.length (argsOf fs x.n)
  let l := wrap64 (wrap64 (D.getD k (-1) - p) + pushesS x.op)
  if D.getD k (-1) < p ∨ 32 < l then (some 12, D) else rstepsS l (nextS x.op x.n k) D
def rallS (fs : List SFunc) (code : List SIns) : Nat → List Int → List Bool → Option (Int × Int) × List Int
  | 0, D, _ => (none, D)
  | f + 1, D, G => match leastS D G with
    | none => (none, D)
    | some k => match roneS fs code D k with
      | (some e, D') => (some ((k : Int), e), D')
      | (none, D') => rallS fs code f D' (G.set k true)
def rwalkS (fs : List SFunc) (code : List SIns) : Option (Int × Int) × List Int :=
  rallS fs code code.length ((List.replicate code.length (-1)).set 0 0) (List.replicate code.length false)
/-- What the reference's depths hands back. -/
def rdOut (r : Option (Int × Int) × List Int) : Option (List Int) × Int × Int := match r.1 with | none => (some r.2, 0, 0) | some (i, e) => (none, i, e)

theorem infoBool1 : (Tryl.prog.info? 4).map (fun i => (i.zero, i.size, i.bytes)) = some (some (.bool false), 1, 1) := by kernel_rfl
theorem arr_of_row {w : World} {base g n cap : Nat} {e : TypeId} {z : Value} (h : w.ownsRow base e 1 (.slice (some ⟨g, 0, none⟩) n cap) n (List.replicate n z)) : ArrAt w g (List.replicate n z) := by
  rcases h.2 with ⟨h0, _⟩ | ⟨g', cap', cur, hv, _, hg, hc, _, hs, ht⟩
  · cases h0
  · cases hv
    refine ⟨cur, e, hg, by simp; omega, fun j v hj => ?_⟩
    rw [← ht, List.getElem?_take] at hj
    split at hj
    · simpa using hj
    · cases hj
theorem list_mkA {ops : Array Oper} {rest : List Oper} {o : Oper} {a : Act} {Q : Exit → Act → World → Prop} {w : World} (l : Operand) (t e : TypeId) (z : Value) (by_ : Nat) (ht : Tryl.prog.underlying t = some (.slice e)) (hinfo : (Tryl.prog.info? e).map (fun i => (i.zero, i.size, i.bytes)) = some (some z, 1, by_)) (hb8 : by_ ≤ 8) (hz : z.cells = #[z])
    (hgd : o.guard = none) (ho : o.op = .makeSlice t l l) (n : Nat) (L : Int) (hl : a.eval l = .int .i64 L) (hL : L = (n : Int)) (hn : n ≤ 1000000) (B : Nat) (hB : w.heap.size = B)
    (h : ∀ w', Kp No w w' → ArrAt w' B (List.replicate n z) → wpList Tryl.prog ops Q rest (a.put o.dst (.slice (some ⟨B, 0, none⟩) n n)) w') : wpList Tryl.prog ops Q (o :: rest) a w := by
  subst hB
  obtain ⟨i0, hi, hz0, hz1, hz2⟩ := info_parts hinfo
  refine wpList_make_full w hgd l l t ho w.heap.size e i0 z 1 ht hi hz0 hz1 .i64 .i64 L L n hl hl hL hL (by rw [hz2]; have : by_ * n ≤ 8 * n := Nat.mul_le_mul_right n hb8; omega) (by unfold maxLen; omega) (Nat.le_refl _) fun w' h1 h2 => ?_
  have hcells : (madeCells z.cells (n * 1)).toList = List.replicate n z := by
    rw [hz, Nat.mul_one]; exact toList_madeCells_one z n
  rw [hcells] at h1
  exact h w' ⟨h2.os, h2.tape, h2.output, h2.size, fun i hi _ => h2.block i hi (by simp)⟩ (arr_of_row h1)

/-- The reference's depths in memory. -/
structure RkC where
  jb : Nat
  fb : Nat
  db : Nat
  gb : Nat
  fao : Option Addr
  fcap : Nat
  av : Value
  J : SJob
  nm : ByteArray
  fa : Int
  fl : Int
  cao : Option Addr
  ccap : Nat
  code : List SIns
  B : Nat
  distinct : jb ≠ fb ∧ jb ≠ db ∧ jb ≠ gb ∧ fb ≠ db ∧ fb ≠ gb ∧ db ≠ gb
  above : B ≤ jb ∧ B ≤ fb ∧ B ≤ db ∧ B ≤ gb
structure Rk (s : RkC) (D : List Int) (G : List Bool) (w : World) : Prop where
  hj : w.heap[s.jb]? = some (.cells #[.slice s.fao s.J.funcs.length s.fcap, .int .i64 s.J.main, s.av, .int .i64 s.J.fuel, .int .i64 s.J.tasks] 26 (0, 0))
  hf : w.heap[s.fb]? = some (.cells #[.string s.nm, .int .i64 s.fa, .int .i64 s.fl, .slice s.cao s.code.length s.ccap] 33 (0, 0))
  aD : ArrAt w s.db (ints D)
  aG : ArrAt w s.gb (bools G)
  fu : FuncsAt s.B w (.slice s.fao s.J.funcs.length s.fcap) s.J.funcs
  co : CodeAt s.B w (.slice s.cao s.code.length s.ccap) s.code
  lD : D.length = s.code.length
  lG : G.length = s.code.length
  hB : s.B ≤ w.heap.size
section
variable {s : RkC} {D : List Int} {G : List Bool} {w w' : World}
theorem Rk.kp (h : Rk s D G w) (k : Kp No w w') : Rk s D G w' :=
  ⟨k.blk h.hj (fun x => x), k.blk h.hf (fun x => x), h.aD.kp k (fun x => x), h.aG.kp k (fun x => x), h.fu.to (k.below h.hB (fun _ x => x.elim)), h.co.to (k.below h.hB (fun _ x => x.elim)), h.lD, h.lG, Nat.le_trans h.hB k.size⟩
theorem Rk.setD (h : Rk s D G w) (k : Nat) (x : Int) : Rk s (D.set k x) G (w.setCell ⟨s.db, k, none⟩ (.int .i64 x)) :=
  ⟨blk_other h.hj _ s.distinct.2.1 _, blk_other h.hf _ s.distinct.2.2.2.1 _, by rw [← ints_set]; exact h.aD.set k _, h.aG.other (Ne.symm s.distinct.2.2.2.2.2) _,
    h.fu.to (below_set s.above.2.2.1 _), h.co.to (below_set s.above.2.2.1 _), by simpa using h.lD, h.lG, by simpa [World.setCell] using h.hB⟩
theorem Rk.setG (h : Rk s D G w) (k : Nat) (x : Bool) : Rk s D (G.set k x) (w.setCell ⟨s.gb, k, none⟩ (.bool x)) :=
  ⟨blk_other h.hj _ s.distinct.2.2.1 _, blk_other h.hf _ s.distinct.2.2.2.2.1 _, h.aD.other s.distinct.2.2.2.2.2 _, by rw [← bools_set]; exact h.aG.set k _,
    h.fu.to (below_set s.above.2.2.2 _), h.co.to (below_set s.above.2.2.2 _), h.lD, by simpa using h.lG, by simpa [World.setCell] using h.hB⟩
structure RkCells (s : RkC) (w : World) : Prop where
  j0 : w.cell? ⟨s.jb, 0, none⟩ = some (.slice s.fao s.J.funcs.length s.fcap)
  f3 : w.cell? ⟨s.fb, 3, none⟩ = some (.slice s.cao s.code.length s.ccap)
  lj : s.jb < w.heap.size
  lf : s.fb < w.heap.size
  ld : s.db < w.heap.size
  lg : s.gb < w.heap.size
theorem Rk.cells (h : Rk s D G w) : RkCells s w := ⟨cell_blk h.hj 0 rfl, cell_blk h.hf 3 rfl, lt_of_block h.hj, lt_of_block h.hf, h.aD.lt, h.aG.lt⟩
theorem Rk.insAt (h : Rk s D G w) {k : Nat} {x : SIns} (hx : s.code[k]? = some x) :
    ∃ b o, b < s.B ∧ s.cao = some ⟨b, o, none⟩ ∧ w.cell? ⟨b, o + k * 2, none⟩ = some (.int .i64 x.op) ∧ w.cell? ⟨b, o + k * 2 + 1, none⟩ = some (.int .i64 x.n) := by
  obtain ⟨ao, cap, hv, h1, h2, h3⟩ := h.co.ex
  have hk : k < s.code.length := by
    rcases Nat.lt_or_ge k s.code.length with g | g
    · exact g
    · rw [List.getElem?_eq_none g] at hx; cases hx
  obtain ⟨b, o, hb, ha, hc⟩ := h3 (by omega)
  injection hv with e1 e2 e3
  exact ⟨b, o, hb, e1.trans ha, hc k x hx⟩
theorem Rk.argsAt (h : Rk s D G w) (op n : Int) :
    op = 16 → 0 ≤ n → n < (s.J.funcs.length : Int) → ∃ b o, s.fao = some ⟨b, o, none⟩ ∧ w.cell? ⟨b, o + n.toNat * 4 + 1, none⟩ = some (.int .i64 (argsOf s.J.funcs n)) := by
  intro _ h0 h1
  obtain ⟨ao, cap, hv, g1, g2, g3⟩ := h.fu.ex
  obtain ⟨b, o, hb, ha, hc⟩ := g3 (by omega)
  injection hv with e1 e2 e3
  have hlt : n.toNat < s.J.funcs.length := by omega
  have := (hc n.toNat _ (List.getElem?_eq_getElem hlt)).2.2.1
  refine ⟨b, o, e1.trans ha, ?_⟩
  rw [this]; unfold argsOf; rw [List.getElem?_eq_getElem hlt]; rfl
end
end Go.Proofs.YtgjdlloiiedpmaaLiftDoor
