/- 'CheckFirst': the walk. No condition. -/
import Derived.Test.YtgjdlloiiedpmaaLiftDoorFirstP
import Derived.Test.YtgjdlloiiedpmaaLiftDoorRowF
import Derived.Test.YtgjdlloiiedpmaaLiftDoorEachB
namespace Go.Proofs.YtgjdlloiiedpmaaLiftDoor
open Go.RowKit

/-- A slice of bools among the arguments. -/
structure BoolsAt (B : Nat) (w : World) (v : Value) (l : List Bool) : Prop where
  ex : ∃ ao cap, v = .slice ao l.length cap ∧ (0 < l.length → ∃ b o, b < B ∧ ao = some ⟨b, o, none⟩ ∧ ∀ j x, l[j]? = some x → w.cell? ⟨b, o + j, none⟩ = some (.bool x))

/-- What the loop has made: the job's block with its row of functions, each code in a block of its own. -/
structure FR (jb : Nat) (l : List Bool) (k : Nat) (w : World) : Prop where
  ex : ∃ (rv : Value) (ps : List (SFunc × Value)), w.heap[jb]? = some (.cells #[rv, .int .i64 0, .slice none 0 0, .int .i64 10, .int .i64 10] 26 (0, 0)) ∧
    w.ownsRow (jb + 1) 33 4 rv ps.length (funCells ps) ∧ ps.map (·.1) = fsW l k ∧
    ∀ p ∈ ps, ∃ (b : Nat) (x y : SIns), jb < b ∧ p.2 = .slice (some ⟨b, 0, none⟩) 2 2 ∧ p.1.code = [x, y] ∧ w.heap[b]? = some (.cells #[.int .i64 x.op, .int .i64 x.n, .int .i64 y.op, .int .i64 y.n] 29 (0, 0))
theorem rv_form {w : World} {base : Nat} {rv : Value} {n : Nat} {xs : List Value} (h : w.ownsRow base 33 4 rv n xs) : ∃ ao cap, rv = .slice ao n cap := by
  rcases h.2 with ⟨h0, h1⟩ | ⟨g, cap, cur, hv, _⟩
  · exact ⟨none, 0, by rw [h0, h1]⟩
  · exact ⟨_, _, hv⟩
theorem own_ne {w : World} {base b : Nat} {rv : Value} {n : Nat} {xs cs : List Value} (h : w.ownsRow base 33 4 rv n xs) (hb : w.heap[b]? = some (.cells cs.toArray 29 (0, 0))) : rv.ownBlock ≠ some b := by
  rcases h.2 with ⟨h0, _⟩ | ⟨g, cap, cur, hv, _, hg, _⟩
  · rw [h0]; simp [Value.ownBlock]
  · rw [hv]
    intro e
    have e' : g = b := by simpa [Value.ownBlock] using e
    rw [e', hb] at hg
    cases hg

theorem fr_keep {jb n : Nat} {wr w4 : World} {rv : Value} {xs : List Value} {cs : Array Value} {t : TypeId} {o1 o2 o3 : Obj} (hJb : wr.heap[jb]? = some (.cells cs t (0, 0))) (hown : wr.ownsRow (jb + 1) 33 4 rv n xs) (hg : (((wr.alloc o1).alloc o2).alloc o3).grownBy w4 rv.ownBlock) :
    w4.heap[jb]? = some (.cells cs t (0, 0)) := by
  have kg : Kp (fun b => rv.ownBlock = some b) (((wr.alloc o1).alloc o2).alloc o3) w4 := ⟨hg.os, hg.tape, hg.output, hg.size, fun i hi hx => hg.block i hi (fun e => hx e.symm)⟩
  exact kg.blk (blk_alloc (blk_alloc (blk_alloc hJb _) _) _) (fun e => by have := (hown.lt _ e).1; omega)
theorem FR.job {jb : Nat} {l : List Bool} {w : World} (h1 : 1 ≤ l.length) (h2 : l.length ≤ 26) {rv : Value} {ps : List (SFunc × Value)} (hown : w.ownsRow (jb + 1) 33 4 rv ps.length (funCells ps)) (hmap : ps.map (·.1) = fsW l l.length)
    (hps : ∀ p ∈ ps, ∃ (b : Nat) (x y : SIns), jb < b ∧ p.2 = .slice (some ⟨b, 0, none⟩) 2 2 ∧ p.1.code = [x, y] ∧ w.heap[b]? = some (.cells #[.int .i64 x.op, .int .i64 x.n, .int .i64 y.op, .int .i64 y.n] 29 (0, 0))) :
    JobAt w.heap.size w rv (.slice none 0 0) ⟨fsW l l.length, 0, [], 10, 10⟩ := by
  have hpl : ps.length = l.length := by have := congrArg List.length hmap; simpa [fsW_len] using this
  obtain ⟨g, cap, rfl, _, _⟩ := hown.form (by omega)
  refine ⟨?_, IntsAt.nil _ _⟩
  have := funcs_of_row hown (fun p hp => by
    obtain ⟨b, x, y, _, e2, e3, hb⟩ := hps p hp
    refine ⟨?_, ?_⟩
    · have hm : p.1 ∈ fsW l l.length := hmap ▸ List.mem_map_of_mem hp
      obtain ⟨i, hi⟩ := List.getElem?_of_mem hm
      obtain ⟨hil, he⟩ := fsW_only hi
      have hsz := let_size ⟨i, by omega⟩
      simp only at hsz
      rw [he]
      show (letName i).size ≤ _
      rw [hsz]; decide
    · rw [e2, e3]; exact code_two hb)
  rw [hmap] at this
  exact this
theorem check_r {fs : List SFunc} {main : Int} {args : List Int} {fuel tasks : Int} {r : Int × Int × Int} (hr : checkR ⟨fs, main, args, fuel, tasks⟩ = r) (fv av : Value) (w W : World) (hg : ErrVar w) (K : Kp No w W) (hJ : JobAt W.heap.size W fv av ⟨fs, main, args, fuel, tasks⟩) :
    Calls Tryl.prog 11 #[.agg #[fv, .int .i64 main, av, .int .i64 fuel, .int .i64 tasks]] W fun x w' => x = .returned (.tuple #[.int .i64 r.1, .int .i64 r.2.1, .int .i64 r.2.2]) ∧ Kp No w w' := by
  have := check_any fv av ⟨fs, main, args, fuel, tasks⟩ W (K.cell hg (fun x => x)) hJ
  rw [hr] at this
  exact this.mono fun x w' h => ⟨h.1, K.trans h.2 (fun _ _ h => h)⟩
theorem wantW_false {l : List Bool} {k : Nat} (h : l.getD k false = false) : wantW l (k + 1) = wantW l k := by
  show (if 0 ≤ wantW l k then wantW l k else if l.getD k false then (k : Int) else -1) = _
  rw [h]
  rcases want_spec l k with ⟨h, _⟩ | ⟨j, _, h, _⟩
  · rw [h]; rfl
  · rw [if_pos (by omega)]
theorem wantW_true {l : List Bool} {k : Nat} (h : l.getD k false = true) : (wantW l k = -1 ∧ wantW l (k + 1) = k) ∨ (0 ≤ wantW l k ∧ wantW l (k + 1) = wantW l k) := by
  have e : wantW l (k + 1) = if 0 ≤ wantW l k then wantW l k else if l.getD k false then (k : Int) else -1 := rfl
  rw [e, h]
  rcases want_spec l k with ⟨h, _⟩ | ⟨j, _, h, _⟩
  · left; rw [h]; exact ⟨rfl, rfl⟩
  · right; rw [if_pos (by omega)]; exact ⟨by omega, rfl⟩
theorem FR.step {jb k cb g cap : Nat} {l : List Bool} {wr W w' : World} {rv : Value} {ps : List (SFunc × Value)} {x y : SIns}
    (hJb : wr.heap[jb]? = some (.cells #[rv, .int .i64 0, .slice none 0 0, .int .i64 10, .int .i64 10] 26 (0, 0))) (hown : wr.ownsRow (jb + 1) 33 4 rv ps.length (funCells ps)) (hmap : ps.map (·.1) = fsW l k)
    (hps : ∀ p ∈ ps, ∃ (b : Nat) (x y : SIns), jb < b ∧ p.2 = .slice (some ⟨b, 0, none⟩) 2 2 ∧ p.1.code = [x, y] ∧ wr.heap[b]? = some (.cells #[.int .i64 x.op, .int .i64 x.n, .int .i64 y.op, .int .i64 y.n] 29 (0, 0)))
    (hk : Kp No wr W) (hcb : wr.heap.size ≤ cb) (hc : W.heap[cb]? = some (.cells #[.int .i64 x.op, .int .i64 x.n, .int .i64 y.op, .int .i64 y.n] 29 (0, 0))) (hxy : (fW l k).code = [x, y])
    (ho : w'.ownsRow (jb + 1) 33 4 (.slice (some ⟨g, 0, none⟩) (ps.length + 1) cap) (ps.length + 1) (funCells (ps ++ [(fW l k, .slice (some ⟨cb, 0, none⟩) 2 2)]))) (hg : W.grownBy w' rv.ownBlock) :
    FR jb l (k + 1) (w'.setCell ⟨jb, 0, none⟩ (.slice (some ⟨g, 0, none⟩) (ps.length + 1) cap)) := by
  have kg : Kp (fun b => rv.ownBlock = some b) W w' := ⟨hg.os, hg.tape, hg.output, hg.size, fun i hi hx => hg.block i hi (fun e => hx e.symm)⟩
  have hjb := lt_of_block hJb
  refine ⟨.slice (some ⟨g, 0, none⟩) (ps.length + 1) cap, ps ++ [(fW l k, .slice (some ⟨cb, 0, none⟩) 2 2)], ?_, ?_, ?_, fun p hp => ?_⟩
  · have h1 := kg.blk (hk.blk hJb (fun x => x)) (fun e => by have := (hown.lt _ e).1; omega)
    exact blk_set h1 0 _ rfl
  · rw [List.length_append]
    exact ownsRow_setCell_below ho (a := ⟨jb, 0, none⟩) (Nat.lt_succ_self jb) _
  · rw [List.map_append, hmap, fsW_succ]; rfl
  · rcases List.mem_append.1 hp with h | h
    · obtain ⟨b, x', y', h1, h2, h3, h4⟩ := hps p h
      exact ⟨b, x', y', h1, h2, h3, blk_other (kg.blk (hk.blk h4 (fun x => x)) (own_ne (cs := [.int .i64 x'.op, .int .i64 x'.n, .int .i64 y'.op, .int .i64 y'.n]) hown h4)) _ (Nat.ne_of_gt h1) _⟩
    · simp only [List.mem_cons, List.mem_nil_iff, or_false] at h
      subst h
      exact ⟨cb, x, y, by omega, rfl, hxy, blk_other (kg.blk hc (fun e => by have := (hown.lt _ e).2; omega)) _ (show cb ≠ jb by omega) _⟩
theorem FR.kpStep {jb n : Nat} {w wr W w' : World} {rv : Value} {xs : List Value} (hown : wr.ownsRow (jb + 1) 33 4 rv n xs) (h0 : Kp No w wr) (hk : Kp No wr W) (hg : W.grownBy w' rv.ownBlock) (hjb : w.heap.size ≤ jb) (v : Value) : Kp No w (w'.setCell ⟨jb, 0, none⟩ v) := by
  have kg : Kp (fun b => rv.ownBlock = some b) W w' := ⟨hg.os, hg.tape, hg.output, hg.size, fun i hi hx => hg.block i hi (fun e => hx e.symm)⟩
  exact (((h0.trans hk (fun _ _ x => x)).trans kg (fun i hi e => by have := (hown.lt _ e).1; omega)).setNew jb 0 v hjb)

set_option maxRecDepth 100000 in
set_option maxHeartbeats 4000000 in
theorem first_any (v : Value) (l : List Bool) (w : World) (hg : ErrVar w) (hl0 : BoolsAt w.heap.size w v l) :
    Calls Tryl.prog 5 #[v] w fun e w' => e = .returned (.bool true) ∧ Kp No w w' := by
  obtain ⟨ao, cap, rfl, c3⟩ := hl0.ex
  by_cases hbig : l.length < 1 ∨ 26 < l.length
  · rcases (show l.length < 1 ∨ (1 ≤ l.length ∧ 26 < l.length) by omega) with h | ⟨h, h'⟩
    · have d1 : decide ((l.length : Int) < 1) = true := decide_eq_true (by omega)
      clear hbig c3 h
      go_enter Tryl.func5, Tryl.ntmps5
      go_wp2_with (first | (go_at_call 9; (with_reducible refine (alive_any _ hg).mono ?_); rintro e w1 ⟨rfl, hk⟩))
      go_ret
      exact ⟨rfl, hk⟩
    · have d1 : decide ((l.length : Int) < 1) = false := decide_eq_false (by omega)
      have d2 : decide (26 < (l.length : Int)) = true := decide_eq_true (by omega)
      clear hbig c3 h h'
      go_enter Tryl.func5, Tryl.ntmps5
      go_wp2_with (first | (go_at_call 9; (with_reducible refine (alive_any _ hg).mono ?_); rintro e w1 ⟨rfl, hk⟩))
      go_ret
      exact ⟨rfl, hk⟩
  have hl1 : 1 ≤ l.length := by omega
  have hl2 : l.length ≤ 26 := by omega
  have d1 : decide ((l.length : Int) < 1) = false := decide_eq_false (by omega)
  have d2 : decide (26 < (l.length : Int)) = false := decide_eq_false (by omega)
  clear hbig
  go_enter Tryl.func5, Tryl.ntmps5
  go_wp2_with (first | (go_at_call 9; (with_reducible refine (alive_any _ hg).mono ?_); rintro e w1 ⟨rfl, hk⟩))
  have hJ0 := blk_new w1 (.cells #[.slice none 0 0, .int .i64 0, .slice none 0 0, .int .i64 10, .int .i64 10] 26) w1.heap.size rfl
  have r0 : FR w1.heap.size l 0 (w1.alloc (.cells #[.slice none 0 0, .int .i64 0, .slice none 0 0, .int .i64 10, .int .i64 10] 26)) := ⟨_, [], hJ0, World.ownsRow_nil _ _ _ _, rfl, fun p hp => by cases hp⟩
  have k0 : Kp No w (w1.alloc (.cells #[.slice none 0 0, .int .i64 0, .slice none 0 0, .int .i64 10, .int .i64 10] 26)) := hk.alloc _
  have n1 := hk.size
  clear hk hJ0 hl0
  go_loopw [5, 6] (fun wv i wr => ∃ (k : Nat), k ≤ l.length ∧ i = .int .i64 k ∧ wv = .int .i64 (wantW l k) ∧ FR w1.heap.size l k wr ∧ Kp No w wr) (fun _ i _ => l.length - (intOf i).toNat)
  case atStart => exact ⟨0, by omega, rfl, rfl, r0, k0⟩
  case round =>
    obtain ⟨k, hk0, rfl, rfl, hfr, hkp⟩ := hrel
    clear r0 k0
    obtain ⟨rv, ps, hJb, hown, hmap, hps⟩ := hfr.ex
    have hpl : ps.length = k := by have := congrArg List.length hmap; simpa [fsW_len] using this
    have j0 := cell_blk hJb 0 (v := rv) rfl
    have t0 := free_blk hJb 0
    have n2 := lt_of_block hJb
    by_cases hlt : k < l.length
    · obtain ⟨ab, aoff, hab, rfl, hac⟩ := c3 (by omega)
      obtain ⟨x, hx⟩ : ∃ x, l[k]? = some x := ⟨_, List.getElem?_eq_getElem hlt⟩
      have hc := hkp.cell (hac k x hx) (fun x => x)
      have hgd : l.getD k false = x := by simp [List.getD, hx]
      have hkI : (k : Int) < l.length := by omega
      have hk00 : (0 : Int) ≤ k := by omega
      have hk26 : (k : Int) + 1 ≤ 26 := by omega
      have hk1 : (k : Int) ≤ k + 1 := by omega
      have habr : ab < wr.heap.size := by have := hkp.size; omega
      have hc2 : ∀ o1 o2, ((wr.alloc o1).alloc o2).cell? ⟨ab, aoff + k, none⟩ = some (.bool x) := fun o1 o2 => cell_al (cell_al hc _) _
      clear c3 hac hx hc
      cases x with
      | false =>
        have hwk := wantW_false hgd
        go_wp2_with (first | (at_builtin; (refine list_pushF _ _ rfl rfl (w1.heap.size + 1) _ ps (fW l k, .slice (some ⟨wr.heap.size, 0, none⟩) 2 2) _ 1 rfl rfl (blk_new _ _ _ (by simp)) rfl (((hown.alloc _).alloc _).alloc _) (by omega) (by simp; omega) ?_); intro g gcap w4 hown4 hg4 hat4; have hJ4 := fr_keep hJb hown hg4; have z0 := cell_blk hJ4 0 rfl; have zf := free_blk hJ4 0))
        have FN := FR.step (x := ⟨1, 0⟩) (y := ⟨18, 0⟩) hJb hown hmap hps ((((Kp.refl No wr).alloc _).alloc _).alloc _) (Nat.le_refl _) (blk_alloc (blk_alloc (blk_new wr _ _ rfl) _) _) (by show [_, (⟨opW _, 0⟩ : SIns)] = _; rw [hgd]; rfl) hown4 hg4
        have KN := FR.kpStep hown hkp ((((Kp.refl No wr).alloc _).alloc _).alloc _) hg4 n1 (.slice (some ⟨g, 0, none⟩) (ps.length + 1) gcap)
        rw [hpl] at FN KN
        go_roundw
        case rel => exact ⟨k + 1, by omega, by go_num, by rw [hwk], FN, KN⟩
        case measure => simp [intOf]; omega
      | true =>
        rcases wantW_true hgd with ⟨hw0, hwk⟩ | ⟨hw0, hwk⟩
        · have e1 : wantW l k = -1 := hw0
          rw [e1]
          go_wp2_with (first | (at_builtin; (refine list_pushF _ _ rfl rfl (w1.heap.size + 1) _ ps (fW l k, .slice (some ⟨wr.heap.size, 0, none⟩) 2 2) _ 1 rfl rfl (blk_new _ _ _ (by simp)) rfl (((hown.alloc _).alloc _).alloc _) (by omega) (by simp; omega) ?_); intro g gcap w4 hown4 hg4 hat4; have hJ4 := fr_keep hJb hown hg4; have z0 := cell_blk hJ4 0 rfl; have zf := free_blk hJ4 0))
          have FN := FR.step (x := ⟨1, 0⟩) (y := ⟨2, 0⟩) hJb hown hmap hps ((((Kp.refl No wr).alloc _).alloc _).alloc _) (Nat.le_refl _) (blk_alloc (blk_alloc (blk_new wr _ _ rfl) _) _) (by show [_, (⟨opW _, 0⟩ : SIns)] = _; rw [hgd]; rfl) hown4 hg4
          have KN := FR.kpStep hown hkp ((((Kp.refl No wr).alloc _).alloc _).alloc _) hg4 n1 (.slice (some ⟨g, 0, none⟩) (ps.length + 1) gcap)
          rw [hpl] at FN KN
          go_roundw
          case rel => exact ⟨k + 1, by omega, by go_num, by rw [hwk], FN, KN⟩
          case measure => simp [intOf]; omega
        · have e1 : decide (wantW l k < 0) = false := decide_eq_false (by omega)
          go_wp2_with (first | (at_builtin; (refine list_pushF _ _ rfl rfl (w1.heap.size + 1) _ ps (fW l k, .slice (some ⟨wr.heap.size, 0, none⟩) 2 2) _ 1 rfl rfl (blk_new _ _ _ (by simp)) rfl (((hown.alloc _).alloc _).alloc _) (by omega) (by simp; omega) ?_); intro g gcap w4 hown4 hg4 hat4; have hJ4 := fr_keep hJb hown hg4; have z0 := cell_blk hJ4 0 rfl; have zf := free_blk hJ4 0))
          have FN := FR.step (x := ⟨1, 0⟩) (y := ⟨2, 0⟩) hJb hown hmap hps ((((Kp.refl No wr).alloc _).alloc _).alloc _) (Nat.le_refl _) (blk_alloc (blk_alloc (blk_new wr _ _ rfl) _) _) (by show [_, (⟨opW _, 0⟩ : SIns)] = _; rw [hgd]; rfl) hown4 hg4
          have KN := FR.kpStep hown hkp ((((Kp.refl No wr).alloc _).alloc _).alloc _) hg4 n1 (.slice (some ⟨g, 0, none⟩) (ps.length + 1) gcap)
          rw [hpl] at FN KN
          go_roundw
          case rel => exact ⟨k + 1, by omega, by go_num, by rw [hwk], FN, KN⟩
          case measure => simp [intOf]; omega
    · have hkl : k = l.length := by omega
      subst hkl
      have hJ := FR.job hl1 hl2 hown hmap hps
      have j1 := cell_blk hJb 1 (v := .int .i64 0) rfl
      have j2 := cell_blk hJb 2 (v := .slice none 0 0) rfl
      have j3 := cell_blk hJb 3 (v := .int .i64 10) rfl
      have j4 := cell_blk hJb 4 (v := .int .i64 10) rfl
      rcases want_spec l l.length with ⟨hw, hn⟩ | ⟨j, hj, hw, ht, hn⟩
      · have hR : checkR ⟨fsW l l.length, 0, [], 10, 10⟩ = (0, 0, 0) := first_none hl1 hl2 hn
        rw [hw]
        clear hn hw c3 hfr hown hmap hps hJb t0 hlt hk0
        go_wp2_with (first
          | (go_at_call 11; (with_reducible refine (check_r hR _ _ w _ hg hkp hJ).mono ?_); rintro e w' ⟨rfl, hk3⟩)
          | (go_at_call 12; (with_reducible refine (num_any _ _).mono ?_); rintro e w' ⟨rfl, rfl⟩))
        go_ret
        exact ⟨rfl, hk3⟩
      · have hR : checkR ⟨fsW l l.length, 0, [], 10, 10⟩ = ((j : Int), 1, 11) := first_some hl2 hj ht hn
        have e1 : decide ((j : Int) < 0) = false := decide_eq_false (by omega)
        rw [hw]
        clear hn hw ht hj c3 hfr hown hmap hps hJb t0 hlt hk0
        go_wp2_with (first
          | (go_at_call 11; (with_reducible refine (check_r hR _ _ w _ hg hkp hJ).mono ?_); rintro e w' ⟨rfl, hk3⟩)
          | (go_at_call 12; (with_reducible refine (num_any _ _).mono ?_); rintro e w' ⟨rfl, rfl⟩))
        go_ret
        exact ⟨rfl, hk3⟩
end Go.Proofs.YtgjdlloiiedpmaaLiftDoor
