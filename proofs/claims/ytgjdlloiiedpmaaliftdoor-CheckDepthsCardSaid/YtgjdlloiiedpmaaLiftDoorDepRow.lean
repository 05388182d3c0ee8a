/- CheckDepths: the row and its tied card. -/
import Derived.Test.YtgjdlloiiedpmaaLiftDoorLaid
import Derived.Test.YtgjdlloiiedpmaaLiftDoorDepL
import Derived.Test.YtgjdlloiiedpmaaLiftDoorOpenJ
import Derived.Carry
import Derived.Test.YtgjdlloiiedpmaaLiftDoorTie
import Derived.Test.YtgjdlloiiedpmaaLiftDoorCards
import Derived.SevenTiedAt
namespace Go.Proofs.YtgjdlloiiedpmaaLiftDoor
open Go.ChangeShapes Go.WideShapes Go.ChangeAt Go.RowKit
set_option linter.unusedVariables false

set_option maxRecDepth 100000 in
theorem depths_lifted (os : Os) (started : os.Started) (H : Type) (enc : TypeId × Value → H) :
    ReturnsInHanded {} Tryl.checked os 6 .any (fun w args => (Rows.checkDepthsSpec.pre enc Tryl.prog Tryl.f6 Rows.checkDepthsRow.domain false w args ∧ laidMetH Tryl.prog laidL w) ∧ sizedMet enc Tryl.prog Tryl.f6 (OpenSpec.ofChange Rows.checkDepthsSpec) false w args)
      (Rows.checkDepthsSpec.post enc Tryl.prog Tryl.f6 false true false false) := by
  refine returnsInHanded_of_change_and (C := Tryl.checked) (X := fun w _ => laidMetH Tryl.prog laidL w) (fun _ _ _ hh h => h.of_heap hh) ownKnob_none started (by kernel_rfl) Tryl.func6
    (ChangeSpec.witness_shaped (enc := enc) (C := Tryl.checked) (os := os) (X := fun w _ => laidMetH Tryl.prog laidL w) false (laidW os) #[.agg #[.slice none 0 0, .int .i64 0, .slice none 0 0, .int .i64 0, .int .i64 0], .int .i64 0] 8 (laidW_os _)
      (World.shaped_of_ZipB (by kernel_rfl) (by kernel_rfl)) (by kernel_rfl) (by kernel_rfl) (by kernel_rfl) (laidW_met os _)) ?_
  intro W base args ds gs before hval0 hW hcnd _ hL _
  have hval : ∀ (j : Nat) t v, Tryl.f6.params[j]? = some t → args[j]? = some v → Value.okWide Tryl.prog W .any base t v := hval0
  have hW' := hW
  obtain ⟨p, q, hA0, hV, rfl, hfz, hnd⟩ := hW
  have hA : DataW.TrodAll enc Tryl.prog W 0 (fun _ => true) true Tryl.f6.params.toList args.toList ds p := hA0
  rw [Tryl.params6] at hA hval
  obtain ⟨v0, vs0, d0, ds0, p0, q0, hargs, rfl, rfl, h0, r0⟩ := trodAll_cons hA
  obtain ⟨v1, vs1, d1, ds1, p1, q1, hargs1, rfl, rfl, h1, r1⟩ := trodAll_cons r0
  obtain ⟨rfl, rfl, rfl⟩ := trodAll_nil r1
  obtain rfl : args = #[v0, v1] := by cases args; simp_all
  obtain ⟨rfl, rfl⟩ := trodVars_none hV
  obtain ⟨J, fv, av, rfl, hJ⟩ := open_job (hval 0 26 v0 rfl rfl) h0
  have hlt : ∀ x ∈ p0, x.block < W.heap.size := fun x hx => by simpa using hW'.lt x (by simp [hx])
  obtain ⟨a1, rfl, rfl, rfl, w1⟩ := open_int Tryl.underlying3 (hval 1 3 v1 rfl rfl) h1
  clear hA0 hval0
  simp only [List.append_nil] at hW'
  refine (depl_any fv av J a1 W (errVar_of_laid hL) hJ).mono fun e W' ⟨he, hg⟩ => ?_
  subst he
  exact ⟨_, rfl, _, _, _, [], p0 ++ ([] ++ []), [], hW', trodAll_cons_mk (shut_bool Tryl.underlying4 _) trodAll_mk0, trodAll_cons_mk (Below.trod (by kernel_rfl) (by kernel_rfl) (of_decide_eq_true (by kernel_rfl)) h0 hg.new hlt) (trodAll_cons_mk (shut_int Tryl.underlying3 w1) trodAll_mk0), rfl, hg.new.frame _, fun h => by cases h⟩

theorem depths_row : Rows.CheckDepthsSaid :=
  OpenClaim.holds_of_wide 6 Tryl.f6 rfl rfl rfl rfl rfl rfl rfl ⟨rfl, rfl, rfl, rfl, rfl⟩ rfl rfl rfl rfl rfl (by kernel_rfl) Tryl.func6 (by kernel_rfl)
    (of_decide_eq_true (by kernel_rfl)) (by unfold Func.isWrapper; first | (rw [if_pos (by decide +kernel)]; kernel_rfl) | (rw [if_neg (by decide +kernel)]; exact ⟨rfl, rfl⟩))
    (fun os started H enc _ => depths_lifted os started H enc)

/-- THE STATEMENT: the tied card. -/
theorem depths_card : Rows.CheckDepthsCardSaid :=
  Claim7.holds_tied_plain_at .later [] [.data, .handle, .pinned] true (true, "8a4fb594422cd1496fe7f917cca14313535d5470db29a2947c1ce538b5734d9a") true
    depths_row (fun _ h => by cases h) (by kernel_rfl) (fun _ h => by cases h) checkDepths_row_tie rfl ⟨rfl, rfl⟩ (by kernel_rfl) rfl
    (fun f fn hf hfn => by
      obtain rfl : f = 6 := Option.some.inj ((show Tryl.prog.funcNamed "gleaner/gleanerlaw5.CheckDepths" = some 6 by kernel_rfl).symm.trans hf) |>.symm
      obtain rfl : fn = Tryl.f6 := (Option.some.inj (Tryl.func6.symm.trans hfn)).symm
      exact ⟨by kernel_rfl, fun j t ht => by
        rw [Tryl.params6] at ht
        have hm : t ∈ [26, 3] := by simpa using Array.mem_of_getElem? ht
        have hall : ([26, 3].all fun u => !Tryl.prog.wantsStandIn u) = true := by kernel_rfl
        exact (show Tryl.prog.wantsStandIn t = false by simpa using List.all_eq_true.1 hall t hm)⟩)
    (by kernel_rfl)
#print axioms depths_card
end Go.Proofs.YtgjdlloiiedpmaaLiftDoor
