/- An array of the call's own, known from its head on; the least instruction. No condition. -/
import Derived.Test.YtgjdlloiiedpmaaLiftDoorIns
namespace Go.Proofs.YtgjdlloiiedpmaaLiftDoor
open Go.RowKit

/-- Block b is a row of cells, none frozen, whose first ones are cs. -/
structure ArrAt (w : World) (b : Nat) (cs : List Value) : Prop where
  ex : ∃ (cur : Array Value) (t : TypeId), w.heap[b]? = some (.cells cur t (0, 0)) ∧ cs.length ≤ cur.size ∧ ∀ (j : Nat) (v : Value), cs[j]? = some v → cur[j]? = some v
theorem ArrAt.cell {w : World} {b : Nat} {cs : List Value} (h : ArrAt w b cs) {j : Nat} {v : Value} (hj : cs[j]? = some v) : w.cell? ⟨b, j, none⟩ = some v := by
  obtain ⟨cur, t, hb, _, hc⟩ := h.ex
  exact cell_blk hb j (hc j v hj)
theorem ArrAt.free {w : World} {b : Nat} {cs : List Value} (h : ArrAt w b cs) (j : Nat) : w.frozen? ⟨b, j, none⟩ = false := by
  obtain ⟨cur, t, hb, _, _⟩ := h.ex
  exact free_blk hb j
theorem ArrAt.lt {w : World} {b : Nat} {cs : List Value} (h : ArrAt w b cs) : b < w.heap.size := by
  obtain ⟨cur, t, hb, _, _⟩ := h.ex
  exact lt_of_block hb
theorem ArrAt.set {w : World} {b : Nat} {cs : List Value} (h : ArrAt w b cs) (j : Nat) (u : Value) : ArrAt (w.setCell ⟨b, j, none⟩ u) b (cs.set j u) := by
  obtain ⟨cur, t, hb, hl, hc⟩ := h.ex
  refine ⟨_, t, blk_setCell hb j u, by simpa using hl, fun i v hi => ?_⟩
  rw [List.getElem?_set] at hi
  rw [Array.getElem?_setIfInBounds]
  by_cases he : j = i
  · subst he
    rw [if_pos rfl] at hi ⊢
    by_cases hlt : j < cs.length
    · rw [if_pos hlt] at hi
      rw [if_pos (by omega)]; exact hi
    · rw [if_neg hlt] at hi; cases hi
  · rw [if_neg he] at hi ⊢
    exact hc i v hi
theorem ArrAt.other {w : World} {b : Nat} {cs : List Value} (h : ArrAt w b cs) {p : Addr} (hp : b ≠ p.block) (u : Value) : ArrAt (w.setCell p u) b cs := by
  obtain ⟨cur, t, hb, r⟩ := h.ex
  exact ⟨cur, t, blk_other hb p hp u, r⟩
theorem ArrAt.kp {w w' : World} {b : Nat} {cs : List Value} {X : Nat → Prop} (h : ArrAt w b cs) (k : Kp X w w') (hx : ¬ X b) : ArrAt w' b cs := by
  obtain ⟨cur, t, hb, r⟩ := h.ex
  exact ⟨cur, t, k.blk hb hx, r⟩

def bools (l : List Bool) : List Value := l.map Value.bool
theorem ints_at {l : List Int} {k : Nat} (h : k < l.length) : (ints l)[k]? = some (.int .i64 l[k]) := by simp [ints, h]
theorem bools_at {l : List Bool} {k : Nat} (h : k < l.length) : (bools l)[k]? = some (.bool l[k]) := by simp [bools, h]
theorem ints_set (l : List Int) (k : Nat) (x : Int) : (ints l).set k (.int .i64 x) = ints (l.set k x) := by simp [ints]
theorem bools_set (l : List Bool) (k : Nat) (x : Bool) : (bools l).set k (.bool x) = bools (l.set k x) := by simp [bools]

/-- Has an instruction a depth, and was it not gone over? -/
def goodAt (D : List Int) (G : List Bool) (k : Nat) : Bool := decide (0 ≤ D.getD k (-1)) && !(G.getD k true)
def leastS (D : List Int) (G : List Bool) : Option Nat := (List.range D.length).find? (goodAt D G)
def leastI (D : List Int) (G : List Bool) : Int := match leastS D G with | some k => k | none => -1
theorem leastI_some {D : List Int} {G : List Bool} {k : Nat} (hk : k < D.length) (h : goodAt D G k = true) (hn : ∀ j, j < k → goodAt D G j = false) : leastI D G = k := by
  unfold leastI leastS
  rw [List.find?_range_eq_some.2 ⟨h, List.mem_range.2 hk, fun j hj => by rw [hn j hj]; rfl⟩]
theorem leastI_none {D : List Int} {G : List Bool} (hn : ∀ j, j < D.length → goodAt D G j = false) : leastI D G = -1 := by
  unfold leastI leastS
  rw [List.find?_range_eq_none.2 fun j hj => by rw [hn j hj]; rfl]

/-- The walker's block. -/
abbrev wkCells (nm : ByteArray) (fa fl : Int) (cv : Value) (cb : Nat) (dv gv : Value) : Array Value :=
  #[.string nm, .int .i64 fa, .int .i64 fl, cv, .pointer (some ⟨cb, 0, none⟩), dv, gv]

set_option maxHeartbeats 1000000 in
theorem least_any (wb db gb dcap gcap n ccap : Nat) (cao : Option Addr) (D : List Int) (G : List Bool) (w : World)
    (h3 : w.cell? ⟨wb, 3, none⟩ = some (.slice cao n ccap)) (h5 : w.cell? ⟨wb, 5, none⟩ = some (.slice (some ⟨db, 0, none⟩) n dcap)) (h6 : w.cell? ⟨wb, 6, none⟩ = some (.slice (some ⟨gb, 0, none⟩) n gcap))
    (hD : D.length = n) (hG : G.length = n) (hn : n ≤ 256) (aD : ArrAt w db (ints D)) (aG : ArrAt w gb (bools G)) :
    Calls Tryl.prog 29 #[.pointer (some ⟨wb, 0, none⟩)] w fun e w' => e = .returned (.int .i64 (leastI D G)) ∧ w = w' := by
  have HD := Lib.hid hD
  have HG := Lib.hid hG
  clear hD hG
  go_enter Tryl.func29, Tryl.ntmps29
  go_wp2
  go_loop [10] (fun i => ∃ k : Nat, k ≤ n ∧ i = .int .i64 k ∧ ∀ j, j < k → goodAt D G j = false) (fun i => n - (intOf i).toNat)
  case atStart => exact ⟨0, by omega, rfl, fun j hj => by omega⟩
  case round =>
    obtain ⟨k, hk, rfl, ha⟩ := hrel
    have HA := Lib.hid ha
    clear ha
    by_cases hlt : k < n
    · have HkD : Hid (k < D.length) := by unfold Hid; rw [HD.out]; exact hlt
      have HkG : Hid (k < G.length) := by unfold Hid; rw [HG.out]; exact hlt
      obtain ⟨d, hd⟩ : ∃ d, D[k]'HkD.out = d := ⟨_, rfl⟩
      obtain ⟨g, hg⟩ : ∃ g, G[k]'HkG.out = g := ⟨_, rfl⟩
      have m1 := aD.cell (ints_at HkD.out)
      have m2 := aG.cell (bools_at HkG.out)
      have HGD : Hid (goodAt D G k = (decide (0 ≤ d) && !g)) := by
        unfold Hid goodAt
        rw [List.getD_eq_getElem?_getD, List.getD_eq_getElem?_getD, List.getElem?_eq_getElem HkD.out, List.getElem?_eq_getElem HkG.out, hd, hg]; rfl
      rw [hd] at m1
      rw [hg] at m2
      clear hd hg
      by_cases h0 : 0 ≤ d
      · have d0 : decide (0 ≤ d) = true := by simp [h0]
        cases g with
        | false =>
          have HR : Hid (leastI D G = k) := leastI_some HkD.out (by rw [HGD.out, d0]; rfl) HA.out
          go_wp2
          go_ret
          exact ⟨ret_int HR.out.symm, rfl⟩
        | true =>
          have HF : Hid (goodAt D G k = false) := by unfold Hid; rw [HGD.out, d0]; rfl
          go_wp2
          go_round
          case rel => exact ⟨k + 1, by omega, by go_num, fun j hj => by
            rcases Nat.lt_succ_iff_lt_or_eq.1 hj with h | h
            · exact HA.out j h
            · rw [h]; exact HF.out⟩
          case measure => simp [intOf]; omega
      · have d0 : decide (0 ≤ d) = false := by simp [h0]
        have HF : Hid (goodAt D G k = false) := by unfold Hid; rw [HGD.out, d0]; rfl
        go_wp2
        go_round
        case rel => exact ⟨k + 1, by omega, by go_num, fun j hj => by
          rcases Nat.lt_succ_iff_lt_or_eq.1 hj with h | h
          · exact HA.out j h
          · rw [h]; exact HF.out⟩
        case measure => simp [intOf]; omega
    · have HR : Hid (leastI D G = -1) := leastI_none (fun j hj => HA.out j (by rw [HD.out] at hj; omega))
      go_wp2
      go_ret
      exact ⟨ret_int HR.out.symm, rfl⟩
end Go.Proofs.YtgjdlloiiedpmaaLiftDoor
