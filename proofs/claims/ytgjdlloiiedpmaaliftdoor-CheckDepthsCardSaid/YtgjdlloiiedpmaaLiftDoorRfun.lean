/- The reference's 'checkFunc': the walk. No condition. -/
import Derived.Test.YtgjdlloiiedpmaaLiftDoorRdep
import Derived.Test.YtgjdlloiiedpmaaLiftDoorOk
namespace Go.Proofs.YtgjdlloiiedpmaaLiftDoor
open Go.RowKit

def rfunS (fs : List SFunc) (k : Nat) (F : SFunc) : Option (Int × Int) :=
  if namedS fs k = false then some (0, 6)
  else if ¬ (0 ≤ F.args ∧ F.args ≤ 8) then some (0, 15)
  else if ¬ (F.args ≤ F.locals ∧ F.locals ≤ 16) then some (0, 13)
  else if ¬ (0 < F.code.length ∧ F.code.length ≤ 256) then some (0, 3)
  else match inssS fs.length F.locals F.code.length 0 F.code with
    | some r => some r
    | none => (rwalkS fs F.code).1
/-- An instruction that may be goes on to no place below 0. -/
theorem next_pos {L : Nat} {lo : Int} {C : Nat} {x : SIns} (h : insS L lo C x.op x.n = none) (k : Nat) : ∀ m ∈ nextS x.op x.n (k : Int), 0 ≤ m := by
  have hn : (x.op = 14 ∨ x.op = 15) → 0 ≤ x.n := by
    intro ho
    unfold insS at h
    split at h
    · cases h
    · split at h
      · cases h
      · split at h
        · cases h
        · rename_i h3
          by_cases hc : 0 ≤ x.n
          · exact hc
          · exact absurd ⟨ho, fun hh => hc hh.1⟩ h3
  intro m hm
  unfold nextS at hm
  split at hm
  · rename_i h14
    have := hn (.inl h14)
    simp at hm; omega
  · split at hm
    · rename_i h15
      have := hn (.inr h15.1)
      simp at hm; omega
    · split at hm
      · simp at hm
      · simp at hm; omega
theorem inss_all {L : Nat} {lo : Int} {C : Nat} : ∀ {l : List SIns} {k : Nat}, inssS L lo C k l = none → ∀ x ∈ l, insS L lo C x.op x.n = none
  | [], _, _, x, hx => by cases hx
  | y :: r, k, h, x, hx => by
    unfold inssS at h
    split at h
    · cases h
    · rename_i hy
      rcases List.mem_cons.1 hx with rfl | hr
      · exact hy
      · exact inss_all h x hr

set_option maxRecDepth 100000 in
set_option maxHeartbeats 8000000 in
theorem rfun_any (B : Nat) (fao : Option Addr) (fcap : Nat) (av : Value) (J : SJob) (k : Nat) (F : SFunc) (w : World) (hk : J.funcs[k]? = some F)
    (hfu : FuncsAt B w (.slice fao J.funcs.length fcap) J.funcs) (hB : B ≤ w.heap.size) (hL : J.funcs.length ≤ 1000000) :
    Calls Tryl.prog 31 #[.agg #[.slice fao J.funcs.length fcap, .int .i64 J.main, av, .int .i64 J.fuel, .int .i64 J.tasks], .int .i64 k] w fun e w' =>
      e = .returned (.tuple #[.int .i64 ((rfunS J.funcs k F).getD (0, 0)).1, .int .i64 ((rfunS J.funcs k F).getD (0, 0)).2]) ∧ Kp No w w' := by
  obtain ⟨nm, fa, fl, code⟩ := F
  obtain ⟨R, hR⟩ : ∃ R, R = rfunS J.funcs k ⟨nm, fa, fl, code⟩ := ⟨_, rfl⟩
  rw [← hR]
  have HR0 := Lib.hid hR
  clear hR
  have hkl : k < J.funcs.length := by
    rcases Nat.lt_or_ge k J.funcs.length with g | g
    · exact g
    · rw [List.getElem?_eq_none g] at hk; cases hk
  obtain ⟨ao, cap, hv, f1, f2, f3⟩ := hfu.ex
  cases hv
  obtain ⟨fbk, fo, hfb, rfl, fc⟩ := f3 (by omega)
  obtain ⟨hns, x0, x1, x2, cv, x3, hco⟩ := fc k _ hk
  obtain ⟨cao, ccap, rfl, q1, q2, q3⟩ := hco.ex
  simp only at hns x0 x1 x2 x3 q1 q2 q3 hco
  have HG : Hid (nameOf J.funcs k = nm) := by unfold Hid nameOf; rw [hk]; rfl
  have i1 : (k : Int) < J.funcs.length := by omega
  have i0 : (0 : Int) ≤ k := by omega
  have lfb : fbk < w.heap.size := by omega
  have FC := Lib.hid fc
  clear f3 q3 hk fc
  go_enter Tryl.func31, Tryl.ntmps31
  go_wp2_with (first | (go_at_call 45; (with_reducible refine (rname_any _ _ hns).mono ?_); rintro e w' ⟨rfl, rfl⟩))
  have hb1 := blk_alloc (blk_new w (.cells #[.slice (some ⟨fbk, fo, none⟩) J.funcs.length fcap, .int .i64 J.main, av, .int .i64 J.fuel, .int .i64 J.tasks] 26) _ rfl) (.cells #[.string nm, .int .i64 fa, .int .i64 fl, .slice cao code.length ccap] 33)
  have hb2 := blk_new (w.alloc (.cells #[.slice (some ⟨fbk, fo, none⟩) J.funcs.length fcap, .int .i64 J.main, av, .int .i64 J.fuel, .int .i64 J.tasks] 26)) (.cells #[.string nm, .int .i64 fa, .int .i64 fl, .slice cao code.length ccap] 33) (w.heap.size + 1) (by simp)
  have k0 : Kp No w ((w.alloc (.cells #[.slice (some ⟨fbk, fo, none⟩) J.funcs.length fcap, .int .i64 J.main, av, .int .i64 J.fuel, .int .i64 J.tasks] 26)).alloc (.cells #[.string nm, .int .i64 fa, .int .i64 fl, .slice cao code.length ccap] 33)) := (kp_al w _).alloc _
  generalize (w.alloc (.cells #[.slice (some ⟨fbk, fo, none⟩) J.funcs.length fcap, .int .i64 J.main, av, .int .i64 J.fuel, .int .i64 J.tasks] 26)).alloc (.cells #[.string nm, .int .i64 fa, .int .i64 fl, .slice cao code.length ccap] 33) = W at hb1 hb2 k0 ⊢
  clear x0 x1 x2 x3
  go_loopw [7, 8] (fun v i wr => ∃ j : Nat, j ≤ k ∧ i = .int .i64 j ∧ v = .bool (nameOk nm.data.toList && (J.funcs.take j).all (fun f => !(f.name.toList == nm.toList))) ∧ Kp No W wr) (fun _ i _ => k - (intOf i).toNat)
  case atStart => exact ⟨0, by omega, rfl, by simp, Kp.refl _ _⟩
  case round =>
    obtain ⟨j, hj, rfl, rfl, hkp⟩ := hrel
    have j0 := cell_blk (hkp.blk hb1 (fun x => x)) 0 (v := .slice (some ⟨fbk, fo, none⟩) J.funcs.length fcap) rfl
    have m0 := cell_blk (hkp.blk hb2 (fun x => x)) 0 (v := .string nm) rfl
    have m1 := cell_blk (hkp.blk hb2 (fun x => x)) 1 (v := .int .i64 fa) rfl
    have m2 := cell_blk (hkp.blk hb2 (fun x => x)) 2 (v := .int .i64 fl) rfl
    have m3 := cell_blk (hkp.blk hb2 (fun x => x)) 3 (v := .slice cao code.length ccap) rfl
    have lm := lt_of_block (hkp.blk hb2 (fun x => x))
    by_cases hlt : j < k
    · have hjl : j < J.funcs.length := by omega
      obtain ⟨f, hf'⟩ : ∃ f, J.funcs[j]? = some f := ⟨_, List.getElem?_eq_getElem hjl⟩
      obtain ⟨-, n0, -⟩ := FC.out j f hf'
      have y0 := (k0.trans hkp (fun _ _ x => x)).cell n0 (fun h => h)
      have HT : Hid ((J.funcs.take (j + 1)).all (fun f => !(f.name.toList == nm.toList)) = ((J.funcs.take j).all (fun f => !(f.name.toList == nm.toList)) && !(f.name.toList == nm.toList))) := by
        have : J.funcs[j] = f := by rw [List.getElem?_eq_getElem hjl] at hf'; exact Option.some.inj hf'
        unfold Hid
        rw [List.take_succ_eq_append_getElem hjl, List.all_append, this]; simp
      have i2 : (j : Int) < J.funcs.length := by omega
      have i3 : (0 : Int) ≤ j := by omega
      clear n0 hf'
      obtain ⟨ok, hok⟩ : ∃ ok, (nameOk nm.data.toList && (J.funcs.take j).all (fun f => !(f.name.toList == nm.toList))) = ok := ⟨_, rfl⟩
      have HOK := Lib.hid hok
      rw [hok]
      clear hok
      by_cases he : f.name.toList = nm.toList
      · have he1 : (f.name.toList == nm.toList) = true := by simp [he]
        have HE1 := Lib.hid he1
        clear he
        cases ok with
        | false =>
          go_wp2
          go_quiet (fail)
          go_wp2
          go_roundw
          case rel => exact ⟨j + 1, by omega, by go_num, by rw [HT.out, ← Bool.and_assoc, HOK.out]; rfl, hkp.drewN _⟩
          case measure => simp [intOf]; omega
        | true =>
          go_wp2
          go_quiet (fail)
          go_wp2
          go_roundw
          case rel => exact ⟨j + 1, by omega, by go_num, by rw [HT.out, ← Bool.and_assoc, HOK.out, HE1.out]; rfl, hkp.drewN _⟩
          case measure => simp [intOf]; omega
      · have he1 : (f.name.toList == nm.toList) = false := by simp [he]
        have HE1 := Lib.hid he1
        clear he
        cases ok with
        | false =>
          go_wp2
          go_quiet (fail)
          go_wp2
          go_roundw
          case rel => exact ⟨j + 1, by omega, by go_num, by rw [HT.out, ← Bool.and_assoc, HOK.out]; rfl, hkp.drewN _⟩
          case measure => simp [intOf]; omega
        | true =>
          go_wp2
          go_quiet (fail)
          go_wp2
          go_roundw
          case rel => exact ⟨j + 1, by omega, by go_num, by rw [HT.out, ← Bool.and_assoc, HOK.out, HE1.out]; rfl, hkp.drewN _⟩
          case measure => simp [intOf]; omega
    · have hjk : j = k := by omega
      subst hjk
      have HN : Hid ((nameOk nm.data.toList && (J.funcs.take j).all (fun f => !(f.name.toList == nm.toList))) = namedS J.funcs j) := by
        unfold Hid namedS; rw [HG.out, Bool.and_comm]
      rw [HN.out]
      have KW : Kp No w wr := k0.trans hkp (fun _ _ x => x)
      cases hnm : namedS J.funcs j with
      | false =>
        have HE : Hid (R = some (0, 6)) := by unfold Hid; rw [HR0.out]; unfold rfunS; rw [if_pos hnm]
        clear hnm
        go_wp2
        exact ⟨rfl, .tuple #[.int .i64 0, .int .i64 6], by simp [results, Tryl.results31], by rw [HE.out]; rfl, KW⟩
      | true =>
      have HR1 : Hid (R = if ¬ (0 ≤ fa ∧ fa ≤ 8) then some (0, 15) else if ¬ (fa ≤ fl ∧ fl ≤ 16) then some (0, 13) else if ¬ (0 < code.length ∧ code.length ≤ 256) then some (0, 3) else match inssS J.funcs.length fl code.length 0 code with | some r => some r | none => (rwalkS J.funcs code).1) := by
        unfold Hid; rw [HR0.out]; unfold rfunS; rw [if_neg (by rw [hnm]; simp)]
      clear hnm
      by_cases ha : 0 ≤ fa ∧ fa ≤ 8
      rotate_left
      · have HE : Hid (R = some (0, 15)) := by unfold Hid; rw [HR1.out, if_pos ha]
        rcases (show fa < 0 ∨ (0 ≤ fa ∧ 8 < fa) by omega) with g | ⟨g, g'⟩
        · have e1 : decide (fa < 0) = true := decide_eq_true g
          clear ha g
          go_wp2
          exact ⟨rfl, .tuple #[.int .i64 0, .int .i64 15], by simp [results, Tryl.results31], by rw [HE.out]; rfl, KW⟩
        · have e1 : decide (fa < 0) = false := decide_eq_false (by omega)
          have e2 : decide (8 < fa) = true := decide_eq_true g'
          clear ha g g'
          go_wp2
          exact ⟨rfl, .tuple #[.int .i64 0, .int .i64 15], by simp [results, Tryl.results31], by rw [HE.out]; rfl, KW⟩
      have a1 : decide (fa < 0) = false := decide_eq_false (by omega)
      have a2 : decide (8 < fa) = false := decide_eq_false (by omega)
      have HR2 : Hid (R = if ¬ (fa ≤ fl ∧ fl ≤ 16) then some (0, 13) else if ¬ (0 < code.length ∧ code.length ≤ 256) then some (0, 3) else match inssS J.funcs.length fl code.length 0 code with | some r => some r | none => (rwalkS J.funcs code).1) := by
        unfold Hid; rw [HR1.out, if_neg (fun h => h ha)]
      clear ha
      by_cases hl : fa ≤ fl ∧ fl ≤ 16
      rotate_left
      · have HE : Hid (R = some (0, 13)) := by unfold Hid; rw [HR2.out, if_pos hl]
        rcases (show fl < fa ∨ (fa ≤ fl ∧ 16 < fl) by omega) with g | ⟨g, g'⟩
        · have e1 : decide (fl < fa) = true := decide_eq_true g
          clear hl g
          go_wp2
          exact ⟨rfl, .tuple #[.int .i64 0, .int .i64 13], by simp [results, Tryl.results31], by rw [HE.out]; rfl, KW⟩
        · have e1 : decide (fl < fa) = false := decide_eq_false (by omega)
          have e2 : decide (16 < fl) = true := decide_eq_true g'
          clear hl g g'
          go_wp2
          exact ⟨rfl, .tuple #[.int .i64 0, .int .i64 13], by simp [results, Tryl.results31], by rw [HE.out]; rfl, KW⟩
      have a3 : decide (fl < fa) = false := decide_eq_false (by omega)
      have a4 : decide (16 < fl) = false := decide_eq_false (by omega)
      have HR3 : Hid (R = if ¬ (0 < code.length ∧ code.length ≤ 256) then some (0, 3) else match inssS J.funcs.length fl code.length 0 code with | some r => some r | none => (rwalkS J.funcs code).1) := by
        unfold Hid; rw [HR2.out, if_neg (fun h => h hl)]
      clear hl
      by_cases hc : 0 < code.length ∧ code.length ≤ 256
      rotate_left
      · have HE : Hid (R = some (0, 3)) := by unfold Hid; rw [HR3.out, if_pos hc]
        rcases (show code.length = 0 ∨ 256 < code.length by omega) with g | g
        · have e1 : ((code.length : Int) == 0) = true := by rw [beq_iff_eq]; omega
          clear hc g
          go_wp2
          exact ⟨rfl, .tuple #[.int .i64 0, .int .i64 3], by simp [results, Tryl.results31], by rw [HE.out]; rfl, KW⟩
        · have e1 : ((code.length : Int) == 0) = false := beq_false_of (by omega)
          have e2 : decide (256 < (code.length : Int)) = true := decide_eq_true (by omega)
          clear hc g
          go_wp2
          exact ⟨rfl, .tuple #[.int .i64 0, .int .i64 3], by simp [results, Tryl.results31], by rw [HE.out]; rfl, KW⟩
      have a5 : ((code.length : Int) == 0) = false := beq_false_of (by omega)
      have a6 : decide (256 < (code.length : Int)) = false := decide_eq_false (by omega)
      have HR4 : Hid (R = match inssS J.funcs.length fl code.length 0 code with | some r => some r | none => (rwalkS J.funcs code).1) := by
        unfold Hid; rw [HR3.out, if_neg (fun h => h hc)]
      obtain ⟨hc0, hc1⟩ := hc
      clear HR1 HR2 HR3
      go_wp2
      clear j0 m0 m1 m2 m3 lm a1 a2 a3 a4 a5 a6
      go_loopw [9] (fun i wr2 => ∃ t : Nat, t ≤ code.length ∧ i = .int .i64 t ∧ inssS J.funcs.length fl code.length 0 code = inssS J.funcs.length fl code.length t (code.drop t) ∧ Kp No W wr2) (fun i _ => code.length - (intOf i).toNat)
      case atStart => exact ⟨0, by omega, rfl, by simp, hkp⟩
      case round =>
        obtain ⟨t, ht, rfl, hin, hkp2⟩ := hrel
        have HIN := Lib.hid hin
        clear hin KW hkp
        have KW : Kp No w wr := k0.trans hkp2 (fun _ _ x => x)
        have bj := hkp2.blk hb1 (fun x => x)
        have bm := hkp2.blk hb2 (fun x => x)
        by_cases hlt : t < code.length
        · obtain ⟨x, hx⟩ : ∃ x, code[t]? = some x := ⟨_, List.getElem?_eq_getElem hlt⟩
          have hcow := hco.to (KW.below hB (fun _ x => x.elim))
          obtain ⟨ao', cap', hv', _, _, h3⟩ := hcow.ex
          obtain ⟨cb, co, hcb, hca, hcc⟩ := h3 hc0
          obtain ⟨x0, x1⟩ := hcc t x hx
          have hca2 : cao = some ⟨cb, co, none⟩ := by injection hv' with h1 _ _; rw [h1, hca]
          have HD : Hid (inssS J.funcs.length fl code.length 0 code = match insS J.funcs.length fl code.length x.op x.n with | some e => some ((t : Int), e) | none => inssS J.funcs.length fl code.length (t + 1) (code.drop (t + 1))) := by
            unfold Hid
            rw [HIN.out, List.drop_eq_getElem_cons hlt, show code[t] = x by rw [List.getElem?_eq_getElem hlt] at hx; exact Option.some.inj hx]
            rfl
          have m3 := cell_blk bm 3 (v := .slice cao code.length ccap) rfl
          rw [hca2] at m3
          have t1 : (t : Int) < code.length := by omega
          have t0 : (0 : Int) ≤ t := by omega
          clear hx hcc h3 hcow hv' hca hca2
          have lj := lt_of_block bj
          have lm := lt_of_block bm
          go_wp2
          have gj0 := fun d os => cell_regrown (cell_blk bj 0 (v := .slice (some ⟨fbk, fo, none⟩) J.funcs.length fcap) rfl) d os
          have gj1 := fun d os => cell_regrown (cell_blk bj 1 (v := .int .i64 J.main) rfl) d os
          have gj2 := fun d os => cell_regrown (cell_blk bj 2 (v := av) rfl) d os
          have gj3 := fun d os => cell_regrown (cell_blk bj 3 (v := .int .i64 J.fuel) rfl) d os
          have gj4 := fun d os => cell_regrown (cell_blk bj 4 (v := .int .i64 J.tasks) rfl) d os
          have gm0 := fun d os => cell_regrown (cell_blk bm 0 (v := .string nm) rfl) d os
          have gm1 := fun d os => cell_regrown (cell_blk bm 1 (v := .int .i64 fa) rfl) d os
          have gm2 := fun d os => cell_regrown (cell_blk bm 2 (v := .int .i64 fl) rfl) d os
          have gm3 := fun d os => cell_regrown m3 d os
          have gx0 := fun d os => cell_regrown x0 d os
          have gx1 := fun d os => cell_regrown x1 d os
          have P := fun d os => Calls.regrown_of (w := wr) (d := d) (os := os) ((checkIns_any (some ⟨fbk, fo, none⟩) (some ⟨cb, co, none⟩) J.funcs.length code.length fcap ccap av J.main J.fuel J.tasks nm fa fl x.op x.n _).mono fun e w' h => ⟨h.1, h.2.new⟩)
          refine wp_region_quiet_below (by kernel_rfl) (by kernel_rfl) ?_
          repeat (go_big_quiet_step ((go_at_call 46; exact P _ _)))
          refine wpQuiet_nil ?_
          rintro W' ⟨p, hp⟩
          have hW : Kp No wr W' := Kp.of_new (hp ▸ below_regrown wr p.d p.os)
          clear hp p gj0 gj1 gj2 gj3 gj4 gm0 gm1 gm2 gm3 gx0 gx1 P x0 x1 m3
          cases hi : insS J.funcs.length fl code.length x.op x.n with
          | some e =>
            have HE : Hid (R = some ((t : Int), e)) := by unfold Hid; rw [HR4.out, HD.out, hi]
            have he : (e != 0) = true := by simp [insS_ne hi]
            have KW' : Kp No w W' := KW.trans hW (fun _ _ x => x)
            simp only [Option.getD_some]
            clear hi
            go_wp2
            exact ⟨rfl, .tuple #[.int .i64 t, .int .i64 e], by simp [results, Tryl.results31], by rw [HE.out]; rfl, KW'⟩
          | none =>
            have HE : Hid (inssS J.funcs.length fl code.length 0 code = inssS J.funcs.length fl code.length (t + 1) (code.drop (t + 1))) := by unfold Hid; rw [HD.out, hi]
            simp only [Option.getD_none]
            clear hi
            go_wp2
            go_roundw
            case rel => exact ⟨t + 1, by omega, by go_num, HE.out, hkp2.trans hW (fun _ _ x => x)⟩
            case measure => simp [intOf]; omega
        · have hIN0 : Hid (inssS J.funcs.length fl code.length 0 code = none) := by
            unfold Hid; rw [HIN.out, List.drop_eq_nil_of_le (by omega)]; rfl
          have HR5 : Hid (R = (rwalkS J.funcs code).1) := by unfold Hid; rw [HR4.out, hIN0.out]
          have j0 := cell_blk bj 0 (v := .slice (some ⟨fbk, fo, none⟩) J.funcs.length fcap) rfl
          have j1 := cell_blk bj 1 (v := .int .i64 J.main) rfl
          have j2 := cell_blk bj 2 (v := av) rfl
          have j3 := cell_blk bj 3 (v := .int .i64 J.fuel) rfl
          have j4 := cell_blk bj 4 (v := .int .i64 J.tasks) rfl
          have m0 := cell_blk bm 0 (v := .string nm) rfl
          have m1 := cell_blk bm 1 (v := .int .i64 fa) rfl
          have m2 := cell_blk bm 2 (v := .int .i64 fl) rfl
          have m3 := cell_blk bm 3 (v := .slice cao code.length ccap) rfl
          have PD := rdepths_any B (some ⟨fbk, fo, none⟩) fcap av J nm fa fl cao ccap code wr (hfu.to (KW.below hB (fun _ x => x.elim))) (hco.to (KW.below hB (fun _ x => x.elim))) (Nat.le_trans hB KW.size) hc0 hc1 (fun k x hx => next_pos (inss_all hIN0.out x (List.mem_of_getElem? hx)) k)
          obtain ⟨rr, hrr⟩ : ∃ rr, rwalkS J.funcs code = rr := ⟨_, rfl⟩
          rw [hrr] at PD HR5
          clear hrr
          obtain ⟨r1, D⟩ := rr
          cases r1 with
          | none =>
            have HE : Hid (R = none) := HR5
            unfold RdE at PD
            simp only [rdOut] at PD
            clear HR5
            go_wp2_with (first | (go_at_call 23; (with_reducible refine PD.mono ?_); rintro e w' ⟨v, rfl, hv, hk9⟩; have KW' : Kp No w w' := KW.trans hk9 (fun _ _ x => x)))
            exact ⟨rfl, .tuple #[.int .i64 0, .int .i64 0], by simp [results, Tryl.results31], by rw [HE.out]; rfl, KW'⟩
          | some q =>
            obtain ⟨qi, qe⟩ := q
            have HE : Hid (R = some (qi, qe)) := HR5
            unfold RdE at PD
            simp only [rdOut] at PD
            clear HR5
            go_wp2_with (first | (go_at_call 23; (with_reducible refine PD.mono ?_); rintro e w' ⟨v, rfl, hv, hk9⟩; have KW' : Kp No w w' := KW.trans hk9 (fun _ _ x => x)))
            exact ⟨rfl, .tuple #[.int .i64 qi, .int .i64 qe], by simp [results, Tryl.results31], by rw [HE.out]; rfl, KW'⟩
end Go.Proofs.YtgjdlloiiedpmaaLiftDoor
