/- The reference's depths: the walk. No condition. -/
import Derived.Test.YtgjdlloiiedpmaaLiftDoorRdS
import Derived.Test.YtgjdlloiiedpmaaLiftDoorLine
namespace Go.Proofs.YtgjdlloiiedpmaaLiftDoor
open Go.RowKit

def d0 (n j : Nat) : List Int := tab n fun t => if t = 0 then 0 else if t < j then -1 else 0
theorem d0_one (n : Nat) : List.replicate n (0 : Int) = d0 n 1 := by
  rw [tab_replicate]
  exact tab_ext fun t _ => by by_cases h : t = 0 <;> simp [h]
theorem d0_set (n j : Nat) (hj : 1 ≤ j) : (d0 n j).set j (-1) = d0 n (j + 1) := by
  unfold d0
  rw [tab_set]
  exact tab_ext fun t _ => by
    by_cases h : t = j
    · subst h; rw [if_pos rfl, if_neg (by omega), if_pos (by omega)]
    · rw [if_neg h]
      by_cases h0 : t = 0
      · rw [if_pos h0, if_pos h0]
      · rw [if_neg h0, if_neg h0]
        by_cases hl : t < j
        · rw [if_pos hl, if_pos (by omega)]
        · rw [if_neg hl, if_neg (by omega)]
theorem d0_end (n : Nat) : d0 n n = (List.replicate n (-1)).set 0 0 := by
  rw [tab_replicate, tab_set]
  exact tab_ext fun t ht => by
    by_cases h : t = 0
    · rw [if_pos h, if_pos h]
    · rw [if_neg h, if_neg h, if_pos ht]
theorem d0_len (n j : Nat) : (d0 n j).length = n := tab_len _ _

/-- What the reference's depths leaves. -/
def RdE (B : Nat) (r : Option (Int × Int) × List Int) (w : World) (e : Ending) (w' : World) : Prop :=
  ∃ v, e = .returned (.tuple #[v, .int .i64 (rdOut r).2.1, .int .i64 (rdOut r).2.2]) ∧ IntsOf B w' v (rdOut r).1 ∧ Kp No w w'

/-- A value that nothing is said of. -/
def AnyV (_ : Value) : Prop := True
/-- What comes behind an instruction. -/
def rcont (fs : List SFunc) (code : List SIns) (c k : Nat) (G : List Bool) : Option Int × List Int → Option (Int × Int) × List Int
  | (some e, D') => (some ((k : Int), e), D')
  | (none, D') => rallS fs code c D' (G.set k true)
theorem rall_cont {fs : List SFunc} {code : List SIns} {c k : Nat} {D : List Int} {G : List Bool} (h : leastS D G = some k) : rallS fs code (c + 1) D G = rcont fs code c k G (roneS fs code D k) := by
  conv => lhs; unfold rallS
  rw [h]
  simp only
  rcases roneS fs code D k with ⟨_ | _, _⟩ <;> rfl

set_option maxRecDepth 100000 in
set_option maxHeartbeats 8000000 in
theorem rdepths_any (B : Nat) (fao : Option Addr) (fcap : Nat) (av : Value) (J : SJob) (nm : ByteArray) (fa fl : Int) (cao : Option Addr) (ccap : Nat) (code : List SIns) (w : World)
    (hfu : FuncsAt B w (.slice fao J.funcs.length fcap) J.funcs) (hco : CodeAt B w (.slice cao code.length ccap) code) (hB : B ≤ w.heap.size) (hn0 : 0 < code.length) (hn : code.length ≤ 256)
    (hnx : ∀ (k : Nat) (x : SIns), code[k]? = some x → ∀ m ∈ nextS x.op x.n (k : Int), 0 ≤ m) :
    Calls Tryl.prog 23 #[.agg #[.slice fao J.funcs.length fcap, .int .i64 J.main, av, .int .i64 J.fuel, .int .i64 J.tasks], .agg #[.string nm, .int .i64 fa, .int .i64 fl, .slice cao code.length ccap]] w (RdE w.heap.size (rwalkS J.funcs code) w) := by
  obtain ⟨R, hR⟩ : ∃ R, R = rwalkS J.funcs code := ⟨_, rfl⟩
  rw [← hR]
  have HR0 := Lib.hid hR
  have HN := Lib.hid (rfl : code.length = code.length)
  have i0 : (0 : Int) < code.length := by omega
  clear hR
  go_enter Tryl.func23, Tryl.ntmps23
  go_wp2_with (first
    | (at_make; (refine list_mkA _ 24 3 (.int .i64 0) 8 Tryl.underlying24 infoInt (by decide) rfl rfl rfl code.length _ rfl rfl (by omega) (w.heap.size + 1 + 1) (by simp) ?_); intro w1 hk1 ha1; have bj := hk1.blk (blk_alloc (blk_new w _ _ rfl) _) (fun x => x); have bf := hk1.blk (blk_new (w.alloc _) _ (w.heap.size + 1) (by simp)) (fun x => x); have f3 := cell_blk bf 3 rfl)
    | (at_make; (refine list_mkA _ 40 4 (.bool false) 1 Tryl.underlying40 infoBool1 (by decide) rfl rfl rfl code.length _ rfl rfl (by omega) w1.heap.size rfl ?_); intro w2 hk2 ha2))
  have l1 := ha1.lt
  obtain ⟨s, hs⟩ : ∃ s : RkC, s = ⟨w.heap.size, w.heap.size + 1, w.heap.size + 1 + 1, w1.heap.size, fao, fcap, av, J, nm, fa, fl, cao, ccap, code, B, ⟨by omega, by omega, by omega, by omega, by omega, by omega⟩, ⟨by omega, by omega, by omega, by omega⟩⟩ := ⟨_, rfl⟩
  have kw : Kp No w w2 := (((kp_al w _).alloc _).trans hk1 (fun _ _ x => x)).trans hk2 (fun _ _ x => x)
  have hbel : Below B w w2 := kw.below hB (fun _ x => x.elim)
  have H0 : Rk s (d0 code.length 1) (List.replicate code.length false) w2 := by
    subst hs
    exact ⟨hk2.blk bj (fun x => x), hk2.blk bf (fun x => x), by rw [← d0_one]; simpa [ints] using ha1.kp hk2 (fun x => x), by simpa [bools] using ha2, hfu.to hbel, hco.to hbel, d0_len _ _, by simp, Nat.le_trans hB kw.size⟩
  have e1 : s.db = w.heap.size + 1 + 1 := by rw [hs]
  have e2 : s.gb = w1.heap.size := by rw [hs]
  have e3 : s.jb = w.heap.size := by rw [hs]
  have e4 : s.fb = w.heap.size + 1 := by rw [hs]
  have e5 : s.code = code := by rw [hs]
  have e6 : s.J = J := by rw [hs]
  have e7 : s.fao = fao := by rw [hs]
  have e8 : s.fcap = fcap := by rw [hs]
  have e9 : s.cao = cao := by rw [hs]
  have e10 : s.ccap = ccap := by rw [hs]
  have nb : w.heap.size ≤ s.db ∧ w.heap.size ≤ s.gb := by rw [e1, e2]; omega
  rw [← e1, ← e2, ← e4, ← e3]
  clear hs hfu hco bj bf f3 hk1 ha1 hk2 ha2 hbel l1
  subst e5 e6 e7 e8 e9 e10
  clear e1 e2 e3 e4
  go_loopw [9] (fun i wr => ∃ (j : Nat), 1 ≤ j ∧ j ≤ s.code.length ∧ i = .int .i64 j ∧ Rk s (d0 s.code.length j) (List.replicate s.code.length false) wr ∧ Kp No w wr) (fun i _ => s.code.length - (intOf i).toNat)
  case atStart => exact ⟨1, by omega, by omega, rfl, H0, kw⟩
  case round =>
    obtain ⟨j, hj1, hj, rfl, hrk, hkp⟩ := hrel
    clear H0 kw
    by_cases hlt : j < s.code.length
    · have c0 := hrk.aD.cell (j := j) (v := .int .i64 0) (by rw [ints, List.getElem?_map, d0, tab_get hlt, if_neg (by omega), if_neg (by omega)]; rfl)
      have r0 := hrk.aD.free j
      have i1 : (j : Int) < s.code.length := by omega
      have i2 : (0 : Int) ≤ j := by omega
      have ld := hrk.cells.ld
      go_wp2
      go_roundw
      case rel => exact ⟨j + 1, by omega, by omega, by go_num, by rw [← d0_set _ _ hj1]; exact hrk.setD j (-1), hkp.setCell _ _ (fun h => absurd h (by simp only; omega))⟩
      case measure => simp [intOf]; omega
    · obtain rfl : j = s.code.length := by omega
      rw [d0_end] at hrk
      go_wp2
      go_loopw [10] (fun v wr => ∃ (D : List Int) (G : List Bool), AnyV v ∧ Rk s D G wr ∧ Kp No w wr ∧ R = rallS s.J.funcs s.code (G.count false) D G) (fun _ wr => togo s.gb s.code.length wr)
      case atStart => exact ⟨_, _, trivial, hrk, hkp, by rw [HR0.out]; unfold rwalkS; simp⟩
      case round =>
        obtain ⟨D, G, -, hrk2, hkp2, hR⟩ := hrel
        clear hrk hkp
        have HR := Lib.hid hR
        have lD := hrk2.lD
        have lG := hrk2.lG
        have ht : togo s.gb s.code.length wr = G.count false := by
          have := togo_eq hrk2.aG
          rw [lG] at this; exact this
        have HT := Lib.hid ht
        have HLD := Lib.hid lD
        have HLG := Lib.hid lG
        clear hR ht lD lG
        go_wp2
        go_loop [10] (fun i => ∃ k : Nat, k ≤ s.code.length ∧ i = .int .i64 k ∧ ∀ j, j < k → goodAt D G j = false) (fun i => s.code.length - (intOf i).toNat)
        case atStart => exact ⟨0, by omega, rfl, fun j hj => by omega⟩
        case round =>
          obtain ⟨k, hk, rfl, ha⟩ := hrel
          have HA := Lib.hid ha
          clear ha
          by_cases hlt : k < s.code.length
          · have HkD : Hid (k < D.length) := by unfold Hid; rw [HLD.out]; exact hlt
            have HkG : Hid (k < G.length) := by unfold Hid; rw [HLG.out]; exact hlt
            obtain ⟨d, hd⟩ : ∃ d, D[k]'HkD.out = d := ⟨_, rfl⟩
            obtain ⟨g, hg⟩ : ∃ g, G[k]'HkG.out = g := ⟨_, rfl⟩
            have m1 := hrk2.aD.cell (ints_at HkD.out)
            have m2 := hrk2.aG.cell (bools_at HkG.out)
            have HGD : Hid (goodAt D G k = (decide (0 ≤ d) && !g)) := by
              unfold Hid goodAt
              rw [List.getD_eq_getElem?_getD, List.getD_eq_getElem?_getD, List.getElem?_eq_getElem HkD.out, List.getElem?_eq_getElem HkG.out, hd, hg]; rfl
            rw [hd] at m1
            rw [hg] at m2
            have i1 : (k : Int) < s.code.length := by omega
            have i2 : (0 : Int) ≤ k := by omega
            have HDK : Hid (D.getD k (-1) = d) := by unfold Hid; rw [List.getD_eq_getElem?_getD, List.getElem?_eq_getElem HkD.out, hd]; rfl
            have HDV : Hid (D[k]? = some d) := by unfold Hid; rw [List.getElem?_eq_getElem HkD.out, hd]
            clear hd hg
            by_cases h0 : d < 0
            · have d0 : decide (d < 0) = true := decide_eq_true h0
              have HF : Hid (goodAt D G k = false) := by unfold Hid; rw [HGD.out, decide_eq_false (by omega)]; rfl
              clear h0
              go_wp2
              go_round
              case rel => exact ⟨k + 1, by omega, by go_num, fun j hj => by
                rcases Nat.lt_succ_iff_lt_or_eq.1 hj with h | h
                · exact HA.out j h
                · rw [h]; exact HF.out⟩
              case measure => simp [intOf]; omega
            · have d0 : decide (d < 0) = false := decide_eq_false h0
              cases g with
              | true =>
                have HF : Hid (goodAt D G k = false) := by unfold Hid; rw [HGD.out]; simp
                clear h0
                go_wp2
                go_round
                case rel => exact ⟨k + 1, by omega, by go_num, fun j hj => by
                  rcases Nat.lt_succ_iff_lt_or_eq.1 hj with h | h
                  · exact HA.out j h
                  · rw [h]; exact HF.out⟩
                case measure => simp [intOf]; omega
              | false =>
                have HGood : Hid (goodAt D G k = true) := by unfold Hid; rw [HGD.out, decide_eq_true (by omega)]; rfl
                have e1 : ((k : Int) == (s.code.length : Int)) = false := by simp; omega
                have r2 := hrk2.aG.free k
                have lgb := hrk2.cells.lg
                have hl : leastS D G = some k := by
                  unfold leastS
                  exact List.find?_range_eq_some.2 ⟨HGood.out, List.mem_range.2 HkD.out, fun j hj => by rw [HA.out j hj]; rfl⟩
                have hcs := count_set (good_gone HGood.out)
                obtain ⟨R1, hR1⟩ : ∃ R1, roneS s.J.funcs s.code D k = R1 := ⟨_, rfl⟩
                have HE : Hid (R = rcont s.J.funcs s.code ((G.set k true).count false) k G R1) := by
                  unfold Hid; rw [HR.out, ← hcs, rall_cont hl, hR1]
                have HC := Lib.hid hcs
                obtain ⟨x, hx⟩ : ∃ x, s.code[k]? = some x := ⟨_, List.getElem?_eq_getElem hlt⟩
                have HONE : Hid (R1 = if d < popsS x.op x.n s.J.funcs.length (argsOf s.J.funcs x.n) ∨ 32 < wrap64 (wrap64 (d - popsS x.op x.n s.J.funcs.length (argsOf s.J.funcs x.n)) + pushesS x.op) then (some 12, D) else rstepsS (wrap64 (wrap64 (d - popsS x.op x.n s.J.funcs.length (argsOf s.J.funcs x.n)) + pushesS x.op)) (nextS x.op x.n k) D) := by
                  unfold Hid; rw [← hR1]; unfold roneS
                  rw [HDK.out, List.getD_eq_getElem?_getD, hx]; rfl
                have HNX := Lib.hid (hnx k x hx)
                clear hl hcs hR1 HGood HR HGD h0
                go_wp2
                have H : Rk s D (G.set k true) (wr.setCell ⟨s.gb, k, none⟩ (.bool true)) := hrk2.setG k true
                have HK : Kp No w (wr.setCell ⟨s.gb, k, none⟩ (.bool true)) := hkp2.setCell _ _ (fun h => absurd h (by simp only; omega))
                generalize wr.setCell ⟨s.gb, k, none⟩ (.bool true) = W at H HK ⊢
                clear hrk2 hkp2 m1 m2 r2 lgb e1 HA
                obtain ⟨xb', xo', _, hxa', x0, x1⟩ := H.insAt hx
                have f3 := H.cells.f3
                rw [hxa'] at f3
                clear hxa'
                have gj := fun d os => cell_regrown H.cells.j0 d os
                have gf := fun d os => cell_regrown f3 d os
                have gx0 := fun d os => cell_regrown x0 d os
                have gx1 := fun d os => cell_regrown x1 d os
                have P := fun d os => Calls.regrown_of (w := W) (d := d) (os := os) (rpops_any x.op x.n s.fao s.J.funcs.length s.fcap (argsOf s.J.funcs x.n) _ (fun a b c => by
                  obtain ⟨b', o', e1, e2⟩ := H.argsAt x.op x.n a b c
                  exact ⟨b', o', e1, cell_regrown e2 _ _⟩))
                refine wp_region_quiet_below (by kernel_rfl) (by kernel_rfl) ?_
                repeat (go_big_quiet_step ((go_at_call 32; exact P _ _)))
                refine wpQuiet_nil ?_
                rintro W' ⟨p, hp⟩
                have hW : Kp No W W' := Kp.of_new (hp ▸ below_regrown W p.d p.os)
                have H' := H.kp hW
                have HK' : Kp No w W' := HK.trans hW (fun _ _ x => x)
                clear hp p gj gf gx0 gx1 P hW H HK x0 x1 f3
                obtain ⟨xb2, xo2, _, hxa2, x0, x1⟩ := H'.insAt hx
                have f3 := H'.cells.f3
                rw [hxa2] at f3
                clear hxa2
                have dk := H'.aD.cell (j := k) (v := .int .i64 d) (by rw [ints, List.getElem?_map, HDV.out]; rfl)
                go_wp2
                have gf := fun d os => cell_regrown f3 d os
                have gx0 := fun d os => cell_regrown x0 d os
                have gx1 := fun d os => cell_regrown x1 d os
                have gd := fun dd os => cell_regrown dk dd os
                have P := fun d os => Calls.regrown_of (w := W') (d := d) (os := os) (rpushes_any x.op x.n _)
                refine wp_region_quiet_below (by kernel_rfl) (by kernel_rfl) ?_
                repeat (go_big_quiet_step ((go_at_call 33; exact P _ _)))
                refine wpQuiet_nil ?_
                rintro W2 ⟨p, hp⟩
                have hW : Kp No W' W2 := Kp.of_new (hp ▸ below_regrown W' p.d p.os)
                have H2 := H'.kp hW
                have HK2 : Kp No w W2 := HK'.trans hW (fun _ _ x => x)
                clear hp p gf gx0 gx1 gd P hW H' HK' x0 x1 f3 dk
                obtain ⟨pp, hpp⟩ : ∃ pp, popsS x.op x.n s.J.funcs.length (argsOf s.J.funcs x.n) = pp := ⟨_, rfl⟩
                rw [hpp] at HONE ⊢
                obtain ⟨l2, hl2⟩ : ∃ l2, wrap64 (wrap64 (d - pp) + pushesS x.op) = l2 := ⟨_, rfl⟩
                rw [hl2] at HONE ⊢
                clear hl2 hpp
                have dk := H2.aD.cell (j := k) (v := .int .i64 d) (by rw [ints, List.getElem?_map, HDV.out]; rfl)
                obtain ⟨xb3, xo3, _, hxa3, x0, x1⟩ := H2.insAt hx
                have f3 := H2.cells.f3
                rw [hxa3] at f3
                clear hxa3
                by_cases hlow : d < pp
                · have HA1 : Hid (R1 = (some 12, D)) := by unfold Hid; rw [HONE.out, if_pos (.inl hlow)]
                  have g1 : decide (d < pp) = true := decide_eq_true hlow
                  clear hlow HONE
                  go_wp2
                  exact ⟨rfl, .tuple #[.slice none 0 0, .int .i64 k, .int .i64 12], by simp [results, Tryl.results23], .slice none 0 0, by rw [HE.out, HA1.out]; rfl, by rw [HE.out, HA1.out]; rfl, HK2⟩
                have g1 : decide (d < pp) = false := decide_eq_false hlow
                by_cases hhi : 32 < l2
                · have HA1 : Hid (R1 = (some 12, D)) := by unfold Hid; rw [HONE.out, if_pos (.inr hhi)]
                  have g2 : decide (32 < l2) = true := decide_eq_true hhi
                  clear hhi hlow HONE
                  go_wp2
                  exact ⟨rfl, .tuple #[.slice none 0 0, .int .i64 k, .int .i64 12], by simp [results, Tryl.results23], .slice none 0 0, by rw [HE.out, HA1.out]; rfl, by rw [HE.out, HA1.out]; rfl, HK2⟩
                have g2 : decide (32 < l2) = false := decide_eq_false hhi
                have HA1 : Hid (R1 = rstepsS l2 (nextS x.op x.n k) D) := by unfold Hid; rw [HONE.out, if_neg (by omega)]
                have l2d := H2.cells.ld
                clear hhi hlow HONE
                go_wp2_with (first | (go_at_call 34; fail))
                refine (rnext_any x.op x.n k _ (by omega) (by omega)).mono ?_
                rintro e W3 ⟨nv, rfl, hnv, hb3⟩
                have H3 := H2.kp (Kp.of_new hb3)
                have HK3 : Kp No w W3 := HK2.trans (Kp.of_new hb3) (fun _ _ x => x)
                clear dk x0 x1 f3 H2 HK2 hb3 g1 g2
                have hnsl := next_len x.op x.n k
                generalize nextS x.op x.n k = ns at HA1 HNX hnv hnsl
                obtain ⟨nao, ncap, rfl, n3⟩ := hnv.ex
                go_wp2
                go_loopw [14] (fun i wr4 => ∃ (j : Nat) (D' : List Int), j ≤ ns.length ∧ i = .int .i64 j ∧ Kp (fun b => b = s.db) W3 wr4 ∧ Rk s D' (G.set k true) wr4 ∧ Kp No w wr4 ∧ R1 = rstepsS l2 (ns.drop j) D') (fun i _ => ns.length - (intOf i).toNat)
                case atStart => exact ⟨0, D, by omega, rfl, Kp.refl _ _, H3, HK3, HA1.out⟩
                case round =>
                  obtain ⟨j, D', hj, rfl, hkp4, hrk4, hkw4, hR4⟩ := hrel
                  have HR4 := Lib.hid hR4
                  clear hR4 H3 HK3
                  by_cases hlt4 : j < ns.length
                  · obtain ⟨nb4, hnb4, rfl, hnc⟩ := n3 (by intro hh; rw [hh] at hlt4; simp at hlt4)
                    obtain ⟨m, hm⟩ : ∃ m, ns[j]? = some m := ⟨_, List.getElem?_eq_getElem hlt4⟩
                    have nj : wr.cell? ⟨nb4, j, none⟩ = some (.int .i64 m) := hkp4.cell (hnc j m hm) (by simp only; omega)
                    have hm0 := HNX.out m (List.mem_of_getElem? hm)
                    have HS2 : Hid (R1 = match rstepS D' l2 m with | (some e, D'') => (some e, D'') | (none, D'') => rstepsS l2 (ns.drop (j + 1)) D'') := by
                      unfold Hid; rw [HR4.out, List.drop_eq_getElem_cons hlt4, show ns[j] = m by rw [List.getElem?_eq_getElem hlt4] at hm; exact Option.some.inj hm]; rfl
                    have lD4 := hrk4.lD
                    have ld4 := hrk4.cells.ld
                    have q1 : (j : Int) < ns.length := by omega
                    have q0 : (0 : Int) ≤ j := by omega
                    clear hm hnc
                    by_cases hin : (s.code.length : Int) ≤ m
                    · have HA2 : Hid (R1 = (some 11, D')) := by unfold Hid; rw [HS2.out]; unfold rstepS; rw [if_pos (by rw [lD4]; exact hin)]
                      have q2 : decide ((s.code.length : Int) ≤ m) = true := decide_eq_true hin
                      clear HS2 hin
                      go_wp2
                      exact ⟨rfl, .tuple #[.slice none 0 0, .int .i64 k, .int .i64 11], by simp [results, Tryl.results23], .slice none 0 0, by rw [HE.out, HA2.out]; rfl, by rw [HE.out, HA2.out]; rfl, hkw4⟩
                    · obtain ⟨mm, rfl⟩ : ∃ mm : Nat, m = mm := ⟨m.toNat, by omega⟩
                      have q2 : decide ((s.code.length : Int) ≤ (mm : Int)) = false := decide_eq_false hin
                      have hmD : mm < D'.length := by omega
                      have q3 : (mm : Int) < s.code.length := by omega
                      obtain ⟨dm, hdm⟩ : ∃ dm, D'[mm]? = some dm := ⟨_, List.getElem?_eq_getElem hmD⟩
                      have cm := hrk4.aD.cell (j := mm) (v := .int .i64 dm) (by rw [ints, List.getElem?_map, hdm]; rfl)
                      have fm := hrk4.aD.free mm
                      have hst : Hid (rstepS D' l2 mm = if 0 ≤ dm ∧ dm ≠ l2 then (some 12, D') else (none, D'.set mm l2)) := by
                        unfold Hid rstepS
                        rw [if_neg (by rw [lD4]; exact hin), Int.toNat_natCast, show D'.getD mm (-1) = dm by rw [List.getD_eq_getElem?_getD, hdm]; rfl]
                      clear hdm hin
                      by_cases hbad : 0 ≤ dm ∧ dm ≠ l2
                      · have HA2 : Hid (R1 = (some 12, D')) := by unfold Hid; rw [HS2.out, hst.out, if_pos hbad]
                        have q4 : decide (0 ≤ dm) = true := decide_eq_true hbad.1
                        have q5 : (dm != l2) = true := by simp [hbad.2]
                        clear HS2 hst hbad
                        go_wp2
                        exact ⟨rfl, .tuple #[.slice none 0 0, .int .i64 k, .int .i64 12], by simp [results, Tryl.results23], .slice none 0 0, by rw [HE.out, HA2.out]; rfl, by rw [HE.out, HA2.out]; rfl, hkw4⟩
                      · have HA2 : Hid (R1 = rstepsS l2 (ns.drop (j + 1)) (D'.set mm l2)) := by unfold Hid; rw [HS2.out, hst.out, if_neg hbad]
                        have hset := hrk4.setD mm l2
                        have hk5 : Kp (fun b => b = s.db) W3 (wr.setCell ⟨s.db, mm, none⟩ (.int .i64 l2)) := hkp4.setCell _ _ (fun _ => rfl)
                        have hw5 : Kp No w (wr.setCell ⟨s.db, mm, none⟩ (.int .i64 l2)) := hkw4.setCell _ _ (fun h => absurd h (by simp only; omega))
                        by_cases hneg : 0 ≤ dm
                        · have q4 : decide (0 ≤ dm) = true := decide_eq_true hneg
                          have q5 : (dm != l2) = false := by simp; omega
                          clear HS2 hst hbad hneg
                          go_wp2
                          go_roundw
                          case rel => exact ⟨j + 1, _, by omega, by go_num, hk5, hset, hw5, HA2.out⟩
                          case measure => simp [intOf]; omega
                        · have q4 : decide (0 ≤ dm) = false := decide_eq_false hneg
                          clear HS2 hst hbad hneg
                          go_wp2
                          go_roundw
                          case rel => exact ⟨j + 1, _, by omega, by go_num, hk5, hset, hw5, HA2.out⟩
                          case measure => simp [intOf]; omega
                  · have HA2 : Hid (R1 = (none, D')) := by unfold Hid; rw [HR4.out, List.drop_eq_nil_of_le (by omega)]; rfl
                    have ht' : togo s.gb s.code.length wr = (G.set k true).count false := by
                      have := togo_eq hrk4.aG
                      rw [List.length_set, HLG.out] at this; exact this
                    have HT' := Lib.hid ht'
                    clear ht'
                    go_wp2
                    go_roundw
                    case rel =>
                      exact ⟨D', _, trivial, hrk4, hkw4, by rw [HE.out, HA2.out]; rfl⟩
                    case measure =>
                      have h1 := HT.out
                      have h2 := HT'.out
                      have h3 := HC.out
                      omega
          · obtain rfl : k = s.code.length := by omega
            have HE : Hid (R = (none, D)) := by
              unfold Hid; rw [HR.out]
              cases hc : G.count false with
              | zero => rfl
              | succ c =>
                unfold rallS
                have : leastS D G = none := by
                  unfold leastS
                  exact List.find?_range_eq_none.2 fun j hj => by rw [HA.out j (by rw [HLD.out] at hj; exact hj)]; rfl
                rw [this]
            go_wp2
            exact ⟨rfl, .tuple #[.slice (some ⟨s.db, 0, none⟩) s.code.length s.code.length, .int .i64 0, .int .i64 0], by simp [results, Tryl.results23], .slice (some ⟨s.db, 0, none⟩) s.code.length s.code.length, by rw [HE.out]; rfl, by rw [HE.out]; exact ⟨s.db, s.code.length, by rw [HLD.out], nb.1, hrk2.aD⟩, hkp2⟩
end Go.Proofs.YtgjdlloiiedpmaaLiftDoor
