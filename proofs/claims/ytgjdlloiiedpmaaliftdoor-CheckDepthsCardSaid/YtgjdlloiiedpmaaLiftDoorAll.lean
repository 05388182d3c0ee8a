/- '(*walk).all': all is gone over. No condition. -/
import Derived.Test.YtgjdlloiiedpmaaLiftDoorOne
import Derived.Test.YtgjdlloiiedpmaaLiftDoorSplit
import Derived.Deep.AppendLies
namespace Go.Proofs.YtgjdlloiiedpmaaLiftDoor
open Go.RowKit

theorem infoInt : (Tryl.prog.info? 3).map (fun i => (i.zero, i.size, i.bytes)) = some (some (.int .i64 0), 1, 8) := by kernel_rfl
theorem infoBool : (Tryl.prog.info? 4).map (fun i => (i.zero, i.size, i.bytes)) = some (some (.bool false), 1, 1) := by kernel_rfl

/-- The two rows that the first loop makes, j elements each. -/
structure Rows2 (base wb : Nat) (hd : List Value) (j : Nat) (v1 v2 : Value) (w : World) : Prop where
  hw : w.heap[wb]? = some (.cells (hd ++ [v1, v2]).toArray 56 (0, 0))
  o1 : w.ownsRow base 3 1 v1 j (ints (List.replicate j (-1)))
  o2 : w.ownsRow base 4 1 v2 j (bools (List.replicate j false))
  ne : ∀ b, v1.ownBlock = some b → v2.ownBlock ≠ some b
  lo : wb < base

/-- One element is appended to a row of one's own, at a step of a drawn region. -/
theorem step_push {P : Program} {ops : Array Oper} {o : Oper} {a : Act} {w : World} {K : Act → World → Prop} {Q : Exit → Act → World → Prop} {E : Prop} (s x : Nat) (t e : TypeId) (base : Nat) (v : Value) (n : Nat) (xs : List Value) (u : Value)
    (hgd : o.guard = none) (ho : o.op = .call { callee := .builtin .append, args := #[.tmp s, .tmp x], argTypes := #[t, t] })
    (i : TypeInfo) (z : Value) (bytes : Nat) (ht : P.underlying t = some (.slice e)) (hi : P.info? e = some i) (hz : i.zero = some z) (hsize : i.size = 1) (hby : i.bytes = bytes) (hb8 : bytes ≤ 8) (hzs : z.cells.size = 1)
    (hs : a.eval (.tmp s) = v) (hx : ∃ B T, a.eval (.tmp x) = .slice (some ⟨B, 0, none⟩) 1 1 ∧ w.heap[B]? = some (.cells #[u] T (0, 0))) (hown : w.ownsRow base e 1 v n xs) (hu : u.oneCell' = true)
    (hn : n ≤ 1000000) (hbase : base ≤ w.heap.size)
    (h : ∀ g cap w', w'.ownsRow base e 1 (.slice (some ⟨g, 0, none⟩) (n + 1) cap) (n + 1) (xs ++ [u]) → w.grownBy w' v.ownBlock → (v.ownBlock = some g ∨ g = w.heap.size) → g < w'.heap.size → K (a.put o.dst (.slice (some ⟨g, 0, none⟩) (n + 1) cap)) w') :
    if Region.wanted o (yielded ops a.tmps) = true then Oper.wp P o a w K Q else E := by
  obtain ⟨B, T, hx, hc⟩ := hx
  refine step_append_lies w hgd (.tmp s) (.tmp x) t ho base e i z 1 bytes ht hi hz hsize hby hzs (by omega) v n xs hs hown ⟨B, 0, none⟩ 1 1 [u] hx rfl ?_ (by simpa using hu) (by omega) ?_ ?_ hbase _ rfl h
  · exact fun j y hy => World.news_of_block hc j y (by simpa using hy)
  · simp [maxLen]; omega
  · have : (n + 1) * bytes ≤ (n + 1) * 8 := Nat.mul_le_mul_left _ hb8
    omega

theorem rows_join {base n1 : Nat} {e1 e2 : TypeId} {v1 v2 : Value} {ys zs xs1 xs2 : List Value} {j g1 cap1 g2 cap2 : Nat} {wr wa w1 wb w2 : World} (hb : base ≤ wr.heap.size) (o1 : wr.ownsRow base e1 1 v1 n1 ys) (o2 : wr.ownsRow base e2 1 v2 n1 zs)
    (hne : v2.ownBlock = none ∨ v2.ownBlock ≠ v1.ownBlock) (hA : Kp No wr wa) (hg1 : wa.grownBy w1 v1.ownBlock) (hB : Kp No w1 wb) (hg2 : wb.grownBy w2 v2.ownBlock)
    (hown1 : w1.ownsRow base e1 1 (.slice (some ⟨g1, 0, none⟩) j cap1) j xs1) (hown2 : w2.ownsRow base e2 1 (.slice (some ⟨g2, 0, none⟩) j cap2) j xs2)
    (hat1 : v1.ownBlock = some g1 ∨ g1 = wa.heap.size) (hlt1 : g1 < w1.heap.size) (hat2 : v2.ownBlock = some g2 ∨ g2 = wb.heap.size) :
    w2.ownsRow base e1 1 (.slice (some ⟨g1, 0, none⟩) j cap1) j xs1 ∧ g1 ≠ g2 ∧ Kp (base ≤ ·) wr w2 := by
  have hv2 : v2.ownBlock ≠ some g1 := by
    intro e
    rcases hat1 with h | h
    · rcases hne with h2 | h2
      · rw [h2] at e; cases e
      · exact h2 (e.trans h.symm)
    · have := (o2.lt _ e).2; have := hA.size; omega
  have s1 := hA.size; have s2 := hg1.size; have s3 := hB.size
  refine ⟨?_, ?_, ?_⟩
  · have : wb.grownBy w2 v2.ownBlock := hg2
    exact (hown1.kept (w' := wb) (row := none) ⟨hB.os, hB.tape, hB.output, hB.size, fun k hk _ => hB.block k hk (fun x => x)⟩ (.inr (by simp [Value.ownBlock]))).kept hg2 (.inr (fun e => hv2 (by rw [← e]; rfl)))
  · rintro rfl
    rcases hat2 with h | h
    · exact hv2 h
    · omega
  · have k1 : Kp (base ≤ ·) wa w1 := ⟨hg1.os, hg1.tape, hg1.output, hg1.size, fun i hi hx => hg1.block i hi (fun e => hx (o1.lt _ e.symm).1)⟩
    have k2 : Kp (base ≤ ·) wb w2 := ⟨hg2.os, hg2.tape, hg2.output, hg2.size, fun i hi hx => hg2.block i hi (fun e => hx (o2.lt _ e.symm).1)⟩
    exact (((hA.mono (Y := (base ≤ ·)) (fun _ _ h => h.elim)).trans k1 (fun _ _ h => h)).trans hB (fun _ _ h => h.elim)).trans k2 (fun _ _ h => h)

/-- All is gone over: where it gives up and with what; the depths then. -/
def allS (fs : List SFunc) (code : List SIns) : Nat → List Int → List Bool → Option (Int × Int) × List Int
  | 0, D, _ => (none, D)
  | f + 1, D, G => match leastS D G with
    | none => (none, D)
    | some k => match oneS fs code D k with
      | (some e, D') => (some ((k : Int), e), D')
      | (none, D') => allS fs code f D' (G.set k true)
def walkS (fs : List SFunc) (code : List SIns) : Option (Int × Int) × List Int :=
  allS fs code code.length ((List.replicate code.length (-1)).set 0 0) (List.replicate code.length false)

/-- How many are not gone over, in memory. -/
def togo (gb n : Nat) (w : World) : Nat := (List.range n).countP fun k => match w.cell? ⟨gb, k, none⟩ with | some (.bool b) => !b | _ => false
theorem countP_range (G : List Bool) : ∀ n, n ≤ G.length → (List.range n).countP (fun k => decide (G[k]? = some false)) = (G.take n).count false := by
  intro n
  induction n with
  | zero => intro _; simp
  | succ n ih =>
    intro h
    have hlt : n < G.length := by omega
    rw [List.range_succ, List.countP_append, ih (by omega), List.take_add_one, List.count_append, List.getElem?_eq_getElem hlt]
    cases hg : G[n] <;> simp [hg, hlt]
theorem togo_eq {gb : Nat} {G : List Bool} {w : World} (h : ArrAt w gb (bools G)) : togo gb G.length w = G.count false := by
  have h1 := countP_range G G.length (Nat.le_refl _)
  rw [List.take_length] at h1
  rw [← h1]
  refine List.countP_congr fun k hk => ?_
  have hk := List.mem_range.1 hk
  rw [h.cell (v := .bool G[k]) (bools_at hk), List.getElem?_eq_getElem hk]
  cases G[k] <;> simp
theorem count_set {G : List Bool} {k : Nat} (h : G[k]? = some false) : (G.set k true).count false + 1 = G.count false := by
  induction G generalizing k with
  | nil => simp at h
  | cons x xs ih =>
    cases k with
    | zero =>
      have : x = false := by simpa using h
      subst this; simp
    | succ k =>
      have := ih (k := k) (by simpa using h)
      simp only [List.set_cons_succ, List.count_cons]
      omega
theorem leastS_some {D : List Int} {G : List Bool} {k : Nat} (h : leastS D G = some k) : k < D.length ∧ goodAt D G k = true := by
  unfold leastS at h
  exact ⟨List.mem_range.1 (List.mem_of_find?_eq_some h), List.find?_some h⟩
theorem good_gone {D : List Int} {G : List Bool} {k : Nat} (h : goodAt D G k = true) : G[k]? = some false := by
  unfold goodAt at h
  simp only [Bool.and_eq_true, Bool.not_eq_true'] at h
  have h2 := h.2
  rw [List.getD_eq_getElem?_getD] at h2
  cases hg : G[k]? with
  | none => rw [hg] at h2; cases h2
  | some b => rw [hg] at h2; simp at h2; rw [h2]

theorem arr_of_own {base : Nat} {e : TypeId} {g cap n : Nat} {xs : List Value} {w : World} (h : w.ownsRow base e 1 (.slice (some ⟨g, 0, none⟩) n cap) n xs) (hn : 0 < n) : ArrAt w g xs ∧ base ≤ g := by
  rcases h.2 with ⟨h0, _⟩ | ⟨g', cap', cur, hv, hb, hg, hc, _, hs, ht⟩
  · cases h0
  · cases hv
    refine ⟨⟨cur, e, hg, ?_, fun j v hj => ?_⟩, hb⟩
    · rw [h.1]; omega
    · have hlt : j < xs.length := by
        rcases Nat.lt_or_ge j xs.length with h1 | h1
        · exact h1
        · rw [List.getElem?_eq_none h1] at hj; cases hj
      rw [← ht, List.getElem?_take] at hj
      split at hj
      · rw [← hj]; simp
      · cases hj

/-- What going over all leaves. -/
def AllE (wb cb n : Nat) (f : Int) (ck : Int → Array Value) (wk : Value → Value → Array Value) (r : Option (Int × Int) × List Int) (w : World) (e : Ending) (w' : World) : Prop :=
  (match r.1 with | none => e = .returned (.tuple #[]) | some (k, x) => e = gaveUp f k x) ∧ Kp (fun b => b = wb ∨ b = cb) w w' ∧ (∃ i, w'.heap[cb]? = some (.cells (ck i) 49 (0, 0))) ∧
  ∃ db dcap gv, w'.heap[wb]? = some (.cells (wk (.slice (some ⟨db, 0, none⟩) n dcap) gv) 56 (0, 0)) ∧ ArrAt w' db (ints r.2) ∧ r.2.length = n ∧ w.heap.size ≤ db

set_option maxRecDepth 100000 in
set_option maxHeartbeats 4000000 in
theorem all_any (B wb cb : Nat) (nm : ByteArray) (fa fl : Int) (cao : Option Addr) (ccap : Nat) (fao : Option Addr) (fcap : Nat) (av : Value) (J : SJob) (f i : Int) (code : List SIns) (w : World)
    (hw : w.heap[wb]? = some (.cells (wkCells nm fa fl (.slice cao code.length ccap) cb (.slice none 0 0) (.slice none 0 0)) 56 (0, 0)))
    (hc : w.heap[cb]? = some (.cells (ckCells (.slice fao J.funcs.length fcap) av J f i) 49 (0, 0))) (hfu : FuncsAt B w (.slice fao J.funcs.length fcap) J.funcs) (hco : CodeAt B w (.slice cao code.length ccap) code)
    (hn : code.length ≤ 256) (hn0 : 0 < code.length) (hne0 : wb ≠ cb) (hbw : B ≤ wb) (hbc : B ≤ cb) (hfew : J.funcs.length ≤ 9223372036854775807) :
    Calls Tryl.prog 21 #[.pointer (some ⟨wb, 0, none⟩)] w
      (AllE wb cb code.length f (ckCells (.slice fao J.funcs.length fcap) av J f) (wkCells nm fa fl (.slice cao code.length ccap) cb) (walkS J.funcs code) w) := by
  obtain ⟨n, hnl⟩ : ∃ n, n = code.length := ⟨_, rfl⟩
  obtain ⟨R, hR⟩ : ∃ R, R = walkS J.funcs code := ⟨_, rfl⟩
  rw [← hR]
  have HR0 := Lib.hid hR
  clear hR
  rw [← hnl] at hw hco hn hn0 ⊢
  have HN := Lib.hid hnl
  clear hnl
  obtain ⟨cp, hcp⟩ : ∃ cp : Addr, cp = ⟨cb, 0, none⟩ := ⟨_, rfl⟩
  have hw' : w.heap[wb]? = some (.cells #[.string nm, .int .i64 fa, .int .i64 fl, .slice cao n ccap, .pointer (some cp), .slice none 0 0, .slice none 0 0] 56 (0, 0)) := by rw [hcp]; exact hw
  have HFU := Lib.hid hfu
  have HCO := Lib.hid hco
  have HC := Lib.hid hc
  clear hw hfu hco hc
  have hw := hw'
  clear hw'
  obtain ⟨i0, hi, hz0, hz1, hz2⟩ := info_parts infoInt
  obtain ⟨i1, hi1, hy0, hy1, hy2⟩ := info_parts infoBool
  have w3 := cell_blk hw 3 (v := .slice cao n ccap) rfl
  go_enter Tryl.func21, Tryl.ntmps21
  go_wp2
  go_loopw [9] (fun i wr => ∃ (j : Nat) (v1 v2 : Value), j ≤ n ∧ i = .int .i64 j ∧ Kp (· = wb) w wr ∧ Rows2 w.heap.size wb [.string nm, .int .i64 fa, .int .i64 fl, .slice cao n ccap, .pointer (some cp)] j v1 v2 wr) (fun i _ => n - (intOf i).toNat)
  case atStart => exact ⟨0, _, _, by omega, rfl, Kp.refl _ _, hw, World.ownsRow_nil _ _ _ _, World.ownsRow_nil _ _ _ _, fun b h => by simp [Value.ownBlock] at h, lt_of_block hw⟩
  case round =>
    obtain ⟨j, v1, v2, hj, rfl, hkp, hr⟩ := hrel
    have r5 := cell_blk hr.hw 5 (v := v1) rfl
    have r6 := cell_blk hr.hw 6 (v := v2) rfl
    by_cases hlt : j < n
    · go_wp2
      go_outline
      have hsz := hkp.size
      have lw := lt_of_block hr.hw
      have o1 := hr.o1
      have o2 := hr.o2
      have b1 : v1.ownBlock ≠ some wb := fun e => by have := (o1.lt _ e).1; have := hr.lo; omega
      have hne : v2.ownBlock = none ∨ v2.ownBlock ≠ v1.ownBlock := by
        cases hv : v2.ownBlock with
        | none => exact .inl rfl
        | some b => exact .inr fun e => hr.ne b e.symm hv
      have b2 : v2.ownBlock ≠ some wb := fun e => by have := (o2.lt _ e).1; have := hr.lo; omega
      refine wp_region_head1 (S := fun w' => w'.cell? ⟨wb, 5, none⟩ = some v1 ∧ w'.cell? ⟨wb, 6, none⟩ = some v2) 14 13 1 _ (.pointer (some ⟨wb, 0, none⟩)) (by kernel_rfl) (by kernel_rfl) rfl rfl (Or.inl ⟨by rfl, fun w => by rfl⟩) ⟨r5, r6⟩ (fun hHeld => ?_)
      simp only [List.take_succ_cons, List.take_zero, List.drop_succ_cons, List.drop_zero, Act.put, List.setIfInBounds_toArray, List.set_cons_zero, List.set_cons_succ]
      refine take_l 0 (.pointer (some ⟨wb, 0, none⟩)) rfl (by kernel_rfl) (by kernel_rfl) (by kernel_rfl) (fun _ _ _ h => h) (by rfl) hHeld (fun W hS => ?_) ?_
      · obtain ⟨h5, h6⟩ := hS
        go_simp
      try simp only [Act.put, List.setIfInBounds_toArray, List.set_cons_zero, List.set_cons_succ]
      refine take_l 2 (.pointer (some ⟨wb, 0, none⟩)) rfl (by kernel_rfl) (by kernel_rfl) (by kernel_rfl) (fun _ _ _ h => h) (by rfl) hHeld (fun W hS => ?_) ?_
      · obtain ⟨h5, h6⟩ := hS
        go_simp
      try simp only [Act.put, List.setIfInBounds_toArray, List.set_cons_zero, List.set_cons_succ]
      refine take_l 3 (.pointer (some ⟨wb, 0, none⟩)) rfl (by kernel_rfl) (by kernel_rfl) (by kernel_rfl) (fun _ _ _ h => h) (by rfl) hHeld (fun W hS => ?_) ?_
      · obtain ⟨h5, h6⟩ := hS
        go_simp
      try simp only [Act.put, List.setIfInBounds_toArray, List.set_cons_zero, List.set_cons_succ]
      refine take_l 4 (.pointer (some ⟨wb, 5, none⟩)) rfl (by kernel_rfl) (by kernel_rfl) (by kernel_rfl) (fun _ _ _ h => h) (by rfl) hHeld (fun W hS => ?_) ?_
      · obtain ⟨h5, h6⟩ := hS
        go_simp
      try simp only [Act.put, List.setIfInBounds_toArray, List.set_cons_zero, List.set_cons_succ]
      refine take_l 5 (v1) rfl (by kernel_rfl) (by kernel_rfl) (by kernel_rfl) (fun _ _ _ h => h) (by rfl) hHeld (fun W hS => ?_) ?_
      · obtain ⟨h5, h6⟩ := hS
        go_simp
      try simp only [Act.put, List.setIfInBounds_toArray, List.set_cons_zero, List.set_cons_succ]
      refine take_l 8 (.pointer (some ⟨wb, 0, none⟩)) rfl (by kernel_rfl) (by kernel_rfl) (by kernel_rfl) (fun _ _ _ h => h) (by rfl) hHeld (fun W hS => ?_) ?_
      · obtain ⟨h5, h6⟩ := hS
        go_simp
      try simp only [Act.put, List.setIfInBounds_toArray, List.set_cons_zero, List.set_cons_succ]
      refine take_l 9 (.pointer (some ⟨wb, 0, none⟩)) rfl (by kernel_rfl) (by kernel_rfl) (by kernel_rfl) (fun _ _ _ h => h) (by rfl) hHeld (fun W hS => ?_) ?_
      · obtain ⟨h5, h6⟩ := hS
        go_simp
      try simp only [Act.put, List.setIfInBounds_toArray, List.set_cons_zero, List.set_cons_succ]
      refine take_l 10 (.pointer (some ⟨wb, 6, none⟩)) rfl (by kernel_rfl) (by kernel_rfl) (by kernel_rfl) (fun _ _ _ h => h) (by rfl) hHeld (fun W hS => ?_) ?_
      · obtain ⟨h5, h6⟩ := hS
        go_simp
      try simp only [Act.put, List.setIfInBounds_toArray, List.set_cons_zero, List.set_cons_succ]
      refine take_l 11 (v2) rfl (by kernel_rfl) (by kernel_rfl) (by kernel_rfl) (fun _ _ _ h => h) (by rfl) hHeld (fun W hS => ?_) ?_
      · obtain ⟨h5, h6⟩ := hS
        go_simp
      try simp only [Act.put, List.setIfInBounds_toArray, List.set_cons_zero, List.set_cons_succ]
      refine wpAnyH_ready (rs := [6, 12]) (by kernel_rfl) (by simp) ?_
      refine ready_l rfl (fun K hK => ?_) (ready_l rfl (fun K hK => ?_) AllReadyH.nil)
      · go_simp
        refine hK.out _ _ ⟨cell_al hHeld.1 _, cell_al hHeld.2 _⟩ (fun hHeld => ?_)
        clear hK K
        try simp only [Act.put, List.setIfInBounds_toArray, List.set_cons_zero, List.set_cons_succ]
        refine wpAnyH_ready (rs := [7, 12]) (by kernel_rfl) (by simp) ?_
        refine ready_l rfl (fun K hK => ?_) (ready_l rfl (fun K hK => ?_) AllReadyH.nil)
        · refine step_push 16 17 24 3 w.heap.size v1 j (ints (List.replicate j (-1))) (.int .i64 (-1)) rfl rfl i0 (.int .i64 0) 8 rfl hi hz0 hz1 hz2 (by decide) rfl rfl ⟨_, _, rfl, blk_new _ _ _ (by simp)⟩ (o1.drew.alloc _) rfl (by omega) (by have := hkp.size; simp; omega) ?_
          intro g1 cap1 w1 hown1 hg1 hat1 hlt1
          refine hK.out _ _ ⟨hg1.cell hHeld.1 (fun e => b1 e.symm), hg1.cell hHeld.2 (fun e => b1 e.symm)⟩ (fun hHeld => ?_)
          clear hK K
          try simp only [Act.put, List.setIfInBounds_toArray, List.set_cons_zero, List.set_cons_succ]
          refine wpAnyH_ready (rs := [12]) (by kernel_rfl) (by simp) ?_
          refine ready_l rfl (fun K hK => ?_) AllReadyH.nil
          go_simp
          refine hK.out _ _ ⟨cell_al hHeld.1 _, cell_al hHeld.2 _⟩ (fun hHeld => ?_)
          clear hK K
          try simp only [Act.put, List.setIfInBounds_toArray, List.set_cons_zero, List.set_cons_succ]
          refine wpAnyH_ready (rs := [13]) (by kernel_rfl) (by simp) ?_
          refine ready_l rfl (fun K hK => ?_) AllReadyH.nil
          refine step_push 22 23 40 4 w.heap.size v2 j (bools (List.replicate j false)) (.bool false) rfl rfl i1 (.bool false) 1 rfl hi1 hy0 hy1 hy2 (by decide) rfl rfl ⟨_, _, rfl, blk_new _ _ _ (by simp)⟩ (((o2.drew.alloc _).kept hg1 hne).alloc _) rfl (by omega) (by have := hkp.size; simp; have := hg1.size; simp at this; omega) ?_
          intro g2 cap2 w2 hown2 hg2 hat2 hlt2
          refine hK.out _ _ ⟨hg2.cell hHeld.1 (fun e => b2 e.symm), hg2.cell hHeld.2 (fun e => b2 e.symm)⟩ (fun hHeld => ?_)
          clear hK K
          try simp only [Act.put, List.setIfInBounds_toArray, List.set_cons_zero, List.set_cons_succ]
          refine wpAnyH_done (by kernel_rfl) ?_ _
          refine headPost.normal ?_
          obtain ⟨hf2, hf3, hf4⟩ := rows_join (by omega) o1 o2 hne (by first | exact ((Kp.refl No wr).drew.alloc _) | exact (((Kp.refl No wr).drew.alloc _).alloc _)) hg1 (by first | exact Kp.refl No _ | exact ((Kp.refl No _).alloc _)) hg2 hown1 hown2 hat1 hlt1 hat2
          have hr0 := hr.lo
          have hw2 := hf4.blk hr.hw (by have := hr.lo; omega)
          have x5 := free_blk hw2 5
          have x6 := free_blk (blk_setCell hw2 5 (.slice (some ⟨g1, 0, none⟩) (j + 1) cap1)) 6
          have y5 := cell_blk hw2 5 (v := v1) rfl
          have y6 := cell_blk (blk_setCell hw2 5 (.slice (some ⟨g1, 0, none⟩) (j + 1) cap1)) 6 (v := v2) rfl
          have hkp2 : Kp (· = wb) w w2 := hkp.trans hf4 (fun i hi h => absurd h (by omega))
          clear hg1 hown1 hat1 hlt1 hg2 hat2 hr hkp r5 r6 o1 o2 b1 b2 hne hsz lw hf4
          go_wp2
          refine NoPanic.normal ?_
          go_wp2
          go_roundw
          case rel =>
            refine ⟨j + 1, .slice (some ⟨g1, 0, none⟩) (j + 1) cap1, .slice (some ⟨g2, 0, none⟩) (j + 1) cap2, by omega, by go_num, (hkp2.setCell _ _ (fun _ => rfl)).setCell _ _ (fun _ => rfl), ⟨?_, ?_, ?_, ?_, hr0⟩⟩
            · rw [blk_setCell (blk_setCell hw2 5 _) 6 _]; rfl
            · have := ownsRow_setCell_below (ownsRow_setCell_below hf2 (a := ⟨wb, 5, none⟩) hr0 (.slice (some ⟨g1, 0, none⟩) (j + 1) cap1)) (a := ⟨wb, 6, none⟩) hr0 (.slice (some ⟨g2, 0, none⟩) (j + 1) cap2)
              rw [show ints (List.replicate (j + 1) (-1)) = ints (List.replicate j (-1)) ++ [.int .i64 (-1)] by simp [ints, List.replicate_succ']]
              exact this
            · have := ownsRow_setCell_below (ownsRow_setCell_below hown2 (a := ⟨wb, 5, none⟩) hr0 (.slice (some ⟨g1, 0, none⟩) (j + 1) cap1)) (a := ⟨wb, 6, none⟩) hr0 (.slice (some ⟨g2, 0, none⟩) (j + 1) cap2)
              rw [show bools (List.replicate (j + 1) false) = bools (List.replicate j false) ++ [.bool false] by simp [bools, List.replicate_succ']]
              exact this
            · intro b h1 h2
              simp [Value.ownBlock] at h1 h2
              omega
          case measure => simp [intOf]; omega
        · go_simp
          refine hK.out _ _ ⟨cell_al hHeld.1 _, cell_al hHeld.2 _⟩ (fun hHeld => ?_)
          clear hK K
          try simp only [Act.put, List.setIfInBounds_toArray, List.set_cons_zero, List.set_cons_succ]
          refine wpAnyH_ready (rs := [7]) (by kernel_rfl) (by simp) ?_
          refine ready_l rfl (fun K hK => ?_) AllReadyH.nil
          refine step_push 16 17 24 3 w.heap.size v1 j (ints (List.replicate j (-1))) (.int .i64 (-1)) rfl rfl i0 (.int .i64 0) 8 rfl hi hz0 hz1 hz2 (by decide) rfl rfl ⟨_, _, rfl, blk_alloc (blk_new _ _ _ (by simp)) _⟩ ((o1.drew.alloc _).alloc _) rfl (by omega) (by have := hkp.size; simp; omega) ?_
          intro g1 cap1 w1 hown1 hg1 hat1 hlt1
          refine hK.out _ _ ⟨hg1.cell hHeld.1 (fun e => b1 e.symm), hg1.cell hHeld.2 (fun e => b1 e.symm)⟩ (fun hHeld => ?_)
          clear hK K
          try simp only [Act.put, List.setIfInBounds_toArray, List.set_cons_zero, List.set_cons_succ]
          refine wpAnyH_ready (rs := [13]) (by kernel_rfl) (by simp) ?_
          refine ready_l rfl (fun K hK => ?_) AllReadyH.nil
          refine step_push 22 23 40 4 w.heap.size v2 j (bools (List.replicate j false)) (.bool false) rfl rfl i1 (.bool false) 1 rfl hi1 hy0 hy1 hy2 (by decide) rfl rfl ⟨_, _, rfl, (hg1.block _ (by simp <;> omega) (fun e => by have := (o1.lt _ e.symm).2; first | omega | (simp at this; done) | (simp at this; omega))).trans (blk_new _ _ _ (by simp))⟩ (((o2.drew.alloc _).alloc _).kept hg1 hne) rfl (by omega) (by have := hkp.size; simp; have := hg1.size; simp at this; omega) ?_
          intro g2 cap2 w2 hown2 hg2 hat2 hlt2
          refine hK.out _ _ ⟨hg2.cell hHeld.1 (fun e => b2 e.symm), hg2.cell hHeld.2 (fun e => b2 e.symm)⟩ (fun hHeld => ?_)
          clear hK K
          try simp only [Act.put, List.setIfInBounds_toArray, List.set_cons_zero, List.set_cons_succ]
          refine wpAnyH_done (by kernel_rfl) ?_ _
          refine headPost.normal ?_
          obtain ⟨hf2, hf3, hf4⟩ := rows_join (by omega) o1 o2 hne (by first | exact ((Kp.refl No wr).drew.alloc _) | exact (((Kp.refl No wr).drew.alloc _).alloc _)) hg1 (by first | exact Kp.refl No _ | exact ((Kp.refl No _).alloc _)) hg2 hown1 hown2 hat1 hlt1 hat2
          have hr0 := hr.lo
          have hw2 := hf4.blk hr.hw (by have := hr.lo; omega)
          have x5 := free_blk hw2 5
          have x6 := free_blk (blk_setCell hw2 5 (.slice (some ⟨g1, 0, none⟩) (j + 1) cap1)) 6
          have y5 := cell_blk hw2 5 (v := v1) rfl
          have y6 := cell_blk (blk_setCell hw2 5 (.slice (some ⟨g1, 0, none⟩) (j + 1) cap1)) 6 (v := v2) rfl
          have hkp2 : Kp (· = wb) w w2 := hkp.trans hf4 (fun i hi h => absurd h (by omega))
          clear hg1 hown1 hat1 hlt1 hg2 hat2 hr hkp r5 r6 o1 o2 b1 b2 hne hsz lw hf4
          go_wp2
          refine NoPanic.normal ?_
          go_wp2
          go_roundw
          case rel =>
            refine ⟨j + 1, .slice (some ⟨g1, 0, none⟩) (j + 1) cap1, .slice (some ⟨g2, 0, none⟩) (j + 1) cap2, by omega, by go_num, (hkp2.setCell _ _ (fun _ => rfl)).setCell _ _ (fun _ => rfl), ⟨?_, ?_, ?_, ?_, hr0⟩⟩
            · rw [blk_setCell (blk_setCell hw2 5 _) 6 _]; rfl
            · have := ownsRow_setCell_below (ownsRow_setCell_below hf2 (a := ⟨wb, 5, none⟩) hr0 (.slice (some ⟨g1, 0, none⟩) (j + 1) cap1)) (a := ⟨wb, 6, none⟩) hr0 (.slice (some ⟨g2, 0, none⟩) (j + 1) cap2)
              rw [show ints (List.replicate (j + 1) (-1)) = ints (List.replicate j (-1)) ++ [.int .i64 (-1)] by simp [ints, List.replicate_succ']]
              exact this
            · have := ownsRow_setCell_below (ownsRow_setCell_below hown2 (a := ⟨wb, 5, none⟩) hr0 (.slice (some ⟨g1, 0, none⟩) (j + 1) cap1)) (a := ⟨wb, 6, none⟩) hr0 (.slice (some ⟨g2, 0, none⟩) (j + 1) cap2)
              rw [show bools (List.replicate (j + 1) false) = bools (List.replicate j false) ++ [.bool false] by simp [bools, List.replicate_succ']]
              exact this
            · intro b h1 h2
              simp [Value.ownBlock] at h1 h2
              omega
          case measure => simp [intOf]; omega
      · go_simp
        refine hK.out _ _ ⟨cell_al hHeld.1 _, cell_al hHeld.2 _⟩ (fun hHeld => ?_)
        clear hK K
        try simp only [Act.put, List.setIfInBounds_toArray, List.set_cons_zero, List.set_cons_succ]
        refine wpAnyH_ready (rs := [6]) (by kernel_rfl) (by simp) ?_
        refine ready_l rfl (fun K hK => ?_) AllReadyH.nil
        go_simp
        refine hK.out _ _ ⟨cell_al hHeld.1 _, cell_al hHeld.2 _⟩ (fun hHeld => ?_)
        clear hK K
        try simp only [Act.put, List.setIfInBounds_toArray, List.set_cons_zero, List.set_cons_succ]
        refine wpAnyH_ready (rs := [7]) (by kernel_rfl) (by simp) ?_
        refine ready_l rfl (fun K hK => ?_) AllReadyH.nil
        refine step_push 16 17 24 3 w.heap.size v1 j (ints (List.replicate j (-1))) (.int .i64 (-1)) rfl rfl i0 (.int .i64 0) 8 rfl hi hz0 hz1 hz2 (by decide) rfl rfl ⟨_, _, rfl, blk_new _ _ _ (by simp)⟩ ((o1.drew.alloc _).alloc _) rfl (by omega) (by have := hkp.size; simp; omega) ?_
        intro g1 cap1 w1 hown1 hg1 hat1 hlt1
        refine hK.out _ _ ⟨hg1.cell hHeld.1 (fun e => b1 e.symm), hg1.cell hHeld.2 (fun e => b1 e.symm)⟩ (fun hHeld => ?_)
        clear hK K
        try simp only [Act.put, List.setIfInBounds_toArray, List.set_cons_zero, List.set_cons_succ]
        refine wpAnyH_ready (rs := [13]) (by kernel_rfl) (by simp) ?_
        refine ready_l rfl (fun K hK => ?_) AllReadyH.nil
        refine step_push 22 23 40 4 w.heap.size v2 j (bools (List.replicate j false)) (.bool false) rfl rfl i1 (.bool false) 1 rfl hi1 hy0 hy1 hy2 (by decide) rfl rfl ⟨_, _, rfl, (hg1.block _ (by simp <;> omega) (fun e => by have := (o1.lt _ e.symm).2; first | omega | (simp at this; done) | (simp at this; omega))).trans (blk_alloc (blk_new _ _ _ (by simp)) _)⟩ (((o2.drew.alloc _).alloc _).kept hg1 hne) rfl (by omega) (by have := hkp.size; simp; have := hg1.size; simp at this; omega) ?_
        intro g2 cap2 w2 hown2 hg2 hat2 hlt2
        refine hK.out _ _ ⟨hg2.cell hHeld.1 (fun e => b2 e.symm), hg2.cell hHeld.2 (fun e => b2 e.symm)⟩ (fun hHeld => ?_)
        clear hK K
        try simp only [Act.put, List.setIfInBounds_toArray, List.set_cons_zero, List.set_cons_succ]
        refine wpAnyH_done (by kernel_rfl) ?_ _
        refine headPost.normal ?_
        obtain ⟨hf2, hf3, hf4⟩ := rows_join (by omega) o1 o2 hne (by first | exact ((Kp.refl No wr).drew.alloc _) | exact (((Kp.refl No wr).drew.alloc _).alloc _)) hg1 (by first | exact Kp.refl No _ | exact ((Kp.refl No _).alloc _)) hg2 hown1 hown2 hat1 hlt1 hat2
        have hr0 := hr.lo
        have hw2 := hf4.blk hr.hw (by have := hr.lo; omega)
        have x5 := free_blk hw2 5
        have x6 := free_blk (blk_setCell hw2 5 (.slice (some ⟨g1, 0, none⟩) (j + 1) cap1)) 6
        have y5 := cell_blk hw2 5 (v := v1) rfl
        have y6 := cell_blk (blk_setCell hw2 5 (.slice (some ⟨g1, 0, none⟩) (j + 1) cap1)) 6 (v := v2) rfl
        have hkp2 : Kp (· = wb) w w2 := hkp.trans hf4 (fun i hi h => absurd h (by omega))
        clear hg1 hown1 hat1 hlt1 hg2 hat2 hr hkp r5 r6 o1 o2 b1 b2 hne hsz lw hf4
        go_wp2
        refine NoPanic.normal ?_
        go_wp2
        go_roundw
        case rel =>
          refine ⟨j + 1, .slice (some ⟨g1, 0, none⟩) (j + 1) cap1, .slice (some ⟨g2, 0, none⟩) (j + 1) cap2, by omega, by go_num, (hkp2.setCell _ _ (fun _ => rfl)).setCell _ _ (fun _ => rfl), ⟨?_, ?_, ?_, ?_, hr0⟩⟩
          · rw [blk_setCell (blk_setCell hw2 5 _) 6 _]; rfl
          · have := ownsRow_setCell_below (ownsRow_setCell_below hf2 (a := ⟨wb, 5, none⟩) hr0 (.slice (some ⟨g1, 0, none⟩) (j + 1) cap1)) (a := ⟨wb, 6, none⟩) hr0 (.slice (some ⟨g2, 0, none⟩) (j + 1) cap2)
            rw [show ints (List.replicate (j + 1) (-1)) = ints (List.replicate j (-1)) ++ [.int .i64 (-1)] by simp [ints, List.replicate_succ']]
            exact this
          · have := ownsRow_setCell_below (ownsRow_setCell_below hown2 (a := ⟨wb, 5, none⟩) hr0 (.slice (some ⟨g1, 0, none⟩) (j + 1) cap1)) (a := ⟨wb, 6, none⟩) hr0 (.slice (some ⟨g2, 0, none⟩) (j + 1) cap2)
            rw [show bools (List.replicate (j + 1) false) = bools (List.replicate j false) ++ [.bool false] by simp [bools, List.replicate_succ']]
            exact this
          · intro b h1 h2
            simp [Value.ownBlock] at h1 h2
            omega
        case measure => simp [intOf]; omega
    · have HN' := HN.out
      subst HN'
      obtain rfl : j = code.length := by omega
      obtain ⟨g1, cap1, rfl, hb1, hl1⟩ := hr.o1.form hn0
      obtain ⟨g2, cap2, rfl, hb2, hl2⟩ := hr.o2.form hn0
      have hr0 := hr.lo
      have hne12 : g1 ≠ g2 := fun e => hr.ne g1 rfl (by rw [e]; rfl)
      have lc := lt_of_block HC.out
      have hBw : B ≤ w.heap.size := by omega
      obtain ⟨s, hs⟩ : ∃ s : WkC, s = ⟨B, wb, cb, g1, g2, cap1, cap2, nm, fa, fl, cao, ccap, fao, fcap, av, J, f, code, ⟨hne0, by omega, by omega, by omega, by omega, hne12⟩, ⟨hbw, hbc, by omega, by omega⟩, hn, hfew⟩ := ⟨_, rfl⟩
      have hbel : Below B w wr := hkp.below hBw (fun i h => by subst h; exact hbw)
      have H0 : Wk s i (List.replicate code.length (-1)) (List.replicate code.length false) wr := by
        subst hs
        exact ⟨by rw [hr.hw, hcp]; rfl, hkp.blk HC.out (fun h => hne0 h.symm), (arr_of_own hr.o1 hn0).1, (arr_of_own hr.o2 hn0).1, HFU.out.to hbel, HCO.out.to hbel, by simp, by simp, Nat.le_trans hBw hkp.size⟩
      have H1 := H0.setD 0 0
      have K1 : Kp (fun b => b = wb ∨ b = cb) w (wr.setCell ⟨s.db, 0, none⟩ (.int .i64 0)) := (hkp.mono (fun _ _ h => Or.inl h)).setCell _ _ (fun h => by subst hs; simp at h; omega)
      have x0 := H0.aD.cell (j := 0) (v := .int .i64 (-1)) (by simp [ints, hn0])
      have y0 := H0.aD.free 0
      have ed : s.db = g1 := by rw [hs]
      have x0 : wr.cell? ⟨g1, 0, none⟩ = some (.int .i64 (-1)) := ed ▸ x0
      have y0 : wr.frozen? ⟨g1, 0, none⟩ = false := ed ▸ y0
      have H1 : Wk s i ((List.replicate code.length (-1)).set 0 0) (List.replicate code.length false) (wr.setCell ⟨g1, 0, none⟩ (.int .i64 0)) := ed ▸ H1
      have K1 : Kp (fun b => b = wb ∨ b = cb) w (wr.setCell ⟨g1, 0, none⟩ (.int .i64 0)) := ed ▸ K1
      have lg1 : (0 : Int) < code.length := by omega
      have hk6 : s.gb = g2 := by rw [hs]
      have L : ∀ (D : List Int) (G : List Bool) (i' : Int) (W : World), Wk s i' D G W → Calls Tryl.prog 29 #[.pointer (some ⟨wb, 0, none⟩)] W fun e w' => e = .returned (.int .i64 (leastI D G)) ∧ W = w' := by
        subst hs
        exact fun D G i' W h => least_any wb g1 g2 cap1 cap2 code.length ccap cao D G W h.cells.w3 h.cells.w5 h.cells.w6 h.lD h.lG hn h.aD h.aG
      have O : ∀ (D : List Int) (G : List Bool) (i' : Int) (k : Nat) (x : SIns) (W : World), Wk s i' D G W → code[k]? = some x → Calls Tryl.prog 30 #[.pointer (some ⟨wb, 0, none⟩), .int .i64 k] W (OneE s k G (oneS J.funcs code D k) W) := by
        subst hs
        exact fun D G i' k x W h hx => one_any _ i' k x D G W h hx
      have C6 : ∀ (D : List Int) (G : List Bool) (i' : Int) (W : World), Wk s i' D G W → W.cell? ⟨wb, 6, none⟩ = some (.slice (some ⟨g2, 0, none⟩) code.length cap2) := by
        subst hs
        exact fun D G i' W h => h.cells.w6
      have E : ∀ (D : List Int) (G : List Bool) (i' : Int) (r : Option (Int × Int)) (e : Ending) (W : World), Wk s i' D G W → Kp (fun b => b = wb ∨ b = cb) w W → (match r with | none => e = .returned (.tuple #[]) | some (k, x) => e = gaveUp f k x) →
          AllE wb cb code.length f (ckCells (.slice fao J.funcs.length fcap) av J f) (wkCells nm fa fl (.slice cao code.length ccap) cb) (r, D) w e W := by
        subst hs
        exact fun D G i' r e W h hk he => ⟨he, hk, ⟨i', h.hc⟩, g1, cap1, _, h.hw, h.aD, h.lD, hb1⟩
      have SG : ∀ (D : List Int) (G : List Bool) (i' : Int) (k : Nat) (W : World), Wk s i' D G W → Wk s i' D (G.set k true) (W.setCell ⟨g2, k, none⟩ (.bool true)) := by
        subst hs
        exact fun D G i' k W h => h.setG k true
      have KO : ∀ (W W' : World), w.heap.size ≤ W.heap.size → Kp (fun b => b = s.cb ∨ b = s.db) W W' → Kp (fun b => b = wb ∨ b = cb ∨ w.heap.size ≤ b) W W' := by
        subst hs
        exact fun W W' _ h => h.mono (fun b _ hb => by simp only at hb; rcases hb with rfl | rfl <;> simp_all)
      have FS : s.f = f := by rw [hs]
      have CL : s.code = code := by rw [hs]
      clear hs H0
      go_wp2_with (first | (go_at_call 29; (with_reducible refine (L _ _ _ _ H1).mono ?_); rintro e w' ⟨rfl, rfl⟩))
      go_loopw [2] (fun v wr => ∃ (D : List Int) (G : List Bool) (i' : Int), Wk s i' D G wr ∧ Kp (fun b => b = wb ∨ b = cb) w wr ∧ v = .int .i64 (leastI D G) ∧ R = allS J.funcs code (G.count false) D G) (fun _ wr => togo g2 code.length wr)
      case atStart =>
        refine ⟨_, _, _, H1, K1, rfl, ?_⟩
        rw [HR0.out]; unfold walkS; simp
      case round =>
        obtain ⟨D, G, i', hwk, hkp, rfl, hR⟩ := hrel
        have HR := Lib.hid hR
        have lG : G.length = code.length := by rw [hwk.lG, CL]
        have lD : D.length = code.length := by rw [hwk.lD, CL]
        have ht : togo g2 code.length wr = G.count false := by
          have := togo_eq hwk.aG
          rw [hk6, lG] at this; exact this
        clear hR H1 K1
        cases hls : leastS D G with
        | none =>
          have hlI : leastI D G = -1 := by unfold leastI; rw [hls]
          rw [hlI]
          have HE : Hid (R = (none, D)) := by
            unfold Hid; rw [HR.out]
            cases hc : G.count false with
            | zero => rfl
            | succ c => unfold allS; rw [hls]
          go_wp2
          go_end0
          rw [HE.out]
          exact E D G i' none _ _ hwk hkp rfl
        | some k =>
          obtain ⟨hkl, hgd⟩ := leastS_some hls
          have hkl : k < code.length := by omega
          have hlI : leastI D G = k := by unfold leastI; rw [hls]
          rw [hlI]
          have hG := good_gone hgd
          have hcs := count_set hG
          obtain ⟨r, D', hone⟩ : ∃ r D', oneS J.funcs code D k = (r, D') := ⟨_, _, rfl⟩
          have HE : Hid (R = match (r, D') with | (some e, D') => (some ((k : Int), e), D') | (none, D') => allS J.funcs code ((G.set k true).count false) D' (G.set k true)) := by
            unfold Hid; rw [HR.out]
            rw [← hcs]
            conv => lhs; unfold allS
            rw [hls]; simp only [hone]
            try (cases r <;> rfl)
          have x6 := C6 D G i' wr hwk
          have hgk : wr.cell? ⟨g2, k, none⟩ = some (.bool false) := by
            rw [← hk6]; exact hwk.aG.cell (by
              have h1 : k < G.length := by omega
              rw [bools_at h1]
              rw [List.getElem?_eq_getElem h1] at hG
              simpa using hG)
          have hfk : wr.frozen? ⟨g2, k, none⟩ = false := by rw [← hk6]; exact hwk.aG.free k
          have H2 := SG D G i' k wr hwk
          have K2 : Kp (fun b => b = wb ∨ b = cb) w (wr.setCell ⟨g2, k, none⟩ (.bool true)) := hkp.setCell _ _ (fun h => by simp at h; omega)
          have hx := List.getElem?_eq_getElem hkl
          have PO := O D (G.set k true) i' k _ _ H2 hx
          rw [hone] at PO
          unfold OneE at PO
          rw [FS] at PO
          have hklI : (k : Int) < code.length := by omega
          have hk0 : (0 : Int) ≤ k := by omega
          have HG := Lib.hid hcs
          clear hls hgd hone hlI HR O hcs hG
          cases r with
          | some x =>
            simp only [Gives, gaveUp] at PO
            go_wp2_with (first | (go_at_call 30; (with_reducible refine PO.mono ?_); rintro e w' ⟨rfl, hk', hwk'⟩))
            rw [HE.out]
            exact ⟨rfl, E D' _ k (some ((k : Int), x)) _ _ hwk' (K2.trans (KO _ _ K2.size hk') (fun i hi h => by omega)) rfl⟩
          | none =>
            go_wp2_with (first | (go_at_call 30; (with_reducible refine PO.mono ?_); rintro e w' ⟨rfl, hk', hwk'⟩) | (go_at_call 29; (with_reducible refine (L _ _ _ _ hwk').mono ?_); rintro e w2 ⟨rfl, rfl⟩))
            go_roundw
            case rel => exact ⟨D', _, k, hwk', K2.trans (KO _ _ K2.size hk') (fun i hi h => by omega), rfl, HE.out⟩
            case measure =>
              have ht' : togo g2 code.length w' = (G.set k true).count false := by
                have := togo_eq hwk'.aG
                rw [hk6, List.length_set, lG] at this; exact this
              rw [ht, ht']
              have := HG.out
              omega
end Go.Proofs.YtgjdlloiiedpmaaLiftDoor
