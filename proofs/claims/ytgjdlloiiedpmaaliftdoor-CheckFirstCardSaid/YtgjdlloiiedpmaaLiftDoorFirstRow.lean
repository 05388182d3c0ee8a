/- CheckFirst: the row and its tied card. -/
import Derived.Test.YtgjdlloiiedpmaaLiftDoorLaid
import Derived.Test.YtgjdlloiiedpmaaLiftDoorFirst
import Derived.Test.YtgjdlloiiedpmaaLiftDoorTie
import Derived.Test.YtgjdlloiiedpmaaLiftDoorCards
import Derived.SevenTiedAt
import Derived.Carry
import Derived.Deep.Slices
namespace Go.Proofs.YtgjdlloiiedpmaaLiftDoor
open Go.ChangeShapes Go.WideShapes Go.ChangeAt Go.RowKit
set_option linter.unusedVariables false

/-- A slice of bools among the arguments. -/
theorem open_bools {H : Type} {enc : TypeId × Value → H} {W : World} {spare : Nat → Bool} {held : Bool} {a0 : Option Addr} {n0 c0 : Nat} {d : DataW H} {ps : List MemPlace}
    (h : DataW.Trod enc Tryl.prog W 0 spare held 40 (.slice a0 n0 c0) d ps) : ∃ l, BoolsAt W.heap.size W (.slice a0 n0 c0) l := by
  obtain ⟨fuel, h⟩ := h
  rcases Go.Deep.open_slice1 Tryl.underlying40 (by kernel_rfl) h with ⟨hv, _⟩ | ⟨a, len, cap, m, n, V, D, Pl, hv, _, hl, hm, hmm, _, hx⟩
  · simp [Value.cells] at hv
    obtain ⟨rfl, rfl, rfl⟩ := hv
    exact ⟨[], none, 0, rfl, fun h => absurd h (by decide)⟩
  · simp [Value.cells] at hv
    obtain ⟨rfl, rfl, rfl⟩ := hv
    have hlm : n0 ≤ m := by rw [hmm]; split <;> omega
    have key : ∀ i, i < n0 → ∃ x : Bool, W.cell? (a.add i) = some (.bool x) := by
      intro i hi
      obtain ⟨g0, g1⟩ := hx i (by omega)
      obtain ⟨b, e0, _⟩ := DataW.trod_bool Tryl.underlying4 g1
      simp only [List.cons.injEq, and_true] at e0
      rw [e0] at g0
      exact ⟨b, g0⟩
    obtain ⟨f, hf⟩ : ∃ f : Nat → Bool, ∀ i, i < n0 → W.cell? (a.add i) = some (.bool (f i)) := by
      classical
      exact ⟨fun i => if hi : i < n0 then Classical.choose (key i hi) else false, fun i hi => by simp only [dif_pos hi]; exact Classical.choose_spec (key i hi)⟩
    have hll : ((List.range n0).map f).length = n0 := by simp
    refine ⟨(List.range n0).map f, some a, c0, by rw [hll], fun hp => ?_⟩
    obtain ⟨b, o, th⟩ := a
    rw [hll] at hp
    have hpl : th = none := by simpa [Addr.add] using World.cell?_spot (hf 0 hp)
    subst hpl
    refine ⟨b, o, ?_, rfl, fun j x hj => ?_⟩
    · have := World.block_lt_of_cell? _ _ (hf 0 hp)
      simpa [Addr.add] using this
    · have hjl : j < n0 := by
        rcases Nat.lt_or_ge j n0 with g | g
        · exact g
        · rw [List.getElem?_eq_none (by rw [hll]; exact g)] at hj; cases hj
      have hxj : f j = x := by
        rw [List.getElem?_map, List.getElem?_range hjl] at hj
        exact Option.some.inj hj
      have g0 := hf j hjl
      have ea : (⟨b, o, none⟩ : Addr).add j = ⟨b, o + j, none⟩ := Go.WideShapes.add_plain _ _ _
      rw [ea, hxj] at g0
      exact g0

set_option maxRecDepth 100000 in
theorem first_lifted (os : Os) (started : os.Started) (H : Type) (enc : TypeId × Value → H) :
    ReturnsInHanded {} Tryl.checked os 5 .any (fun w args => (Rows.checkFirstSpec.pre enc Tryl.prog Tryl.f5 Rows.checkFirstRow.domain false w args ∧ laidMetH Tryl.prog laidL w) ∧ sizedMet enc Tryl.prog Tryl.f5 (OpenSpec.ofChange Rows.checkFirstSpec) false w args)
      (Rows.checkFirstSpec.post enc Tryl.prog Tryl.f5 false true false false) := by
  refine returnsInHanded_of_change_and (C := Tryl.checked) (X := fun w _ => laidMetH Tryl.prog laidL w) (fun _ _ _ hh h => h.of_heap hh) ownKnob_none started (by kernel_rfl) Tryl.func5
    (ChangeSpec.witness_shaped (enc := enc) (C := Tryl.checked) (os := os) (X := fun w _ => laidMetH Tryl.prog laidL w) false (laidW os) #[.slice none 0 0] 8 (laidW_os _)
      (World.shaped_of_ZipB (by kernel_rfl) (by kernel_rfl)) (by kernel_rfl) (by kernel_rfl) (by kernel_rfl) (laidW_met os _)) ?_
  intro W base args ds gs before hval0 hW hcnd _ hL _
  have hval : ∀ (j : Nat) t v, Tryl.f5.params[j]? = some t → args[j]? = some v → Value.okWide Tryl.prog W .any base t v := hval0
  have hW' := hW
  obtain ⟨p, q, hA0, hV, rfl, hfz, hnd⟩ := hW
  have hA : DataW.TrodAll enc Tryl.prog W 0 (fun _ => true) true Tryl.f5.params.toList args.toList ds p := hA0
  rw [Tryl.params5] at hA hval
  obtain ⟨v0, vs0, d0, ds0, p0, q0, hargs, rfl, rfl, h0, r0⟩ := trodAll_cons hA
  obtain ⟨rfl, rfl, rfl⟩ := trodAll_nil r0
  obtain rfl : args = #[v0] := by cases args; simp_all
  obtain ⟨rfl, rfl⟩ := trodVars_none hV
  obtain ⟨a0, n0, c0, rfl⟩ := okWide_slice Tryl.underlying40 (hval 0 40 v0 rfl rfl)
  obtain ⟨l, hl⟩ := open_bools h0
  clear hA0 hval0
  simp only [List.append_nil] at hW'
  have hlt : ∀ x ∈ p0, x.block < W.heap.size := fun x hx => by simpa using hW'.lt x hx
  refine (first_any (.slice a0 n0 c0) l W (errVar_of_laid hL) hl).mono fun e W' ⟨he, hg⟩ => ?_
  subst he
  exact ⟨_, rfl, _, _, _, [], p0 ++ [], [], hW', trodAll_cons_mk (shut_bool Tryl.underlying4 _) trodAll_mk0, trodAll_cons_mk (Below.trod (by kernel_rfl) (by kernel_rfl) (of_decide_eq_true (by kernel_rfl)) h0 hg.new hlt) trodAll_mk0, rfl, hg.new.frame _, fun h => by cases h⟩

theorem first_row : Rows.CheckFirstSaid :=
  OpenClaim.holds_of_wide 5 Tryl.f5 rfl rfl rfl rfl rfl rfl rfl ⟨rfl, rfl, rfl, rfl, rfl⟩ rfl rfl rfl rfl rfl (by kernel_rfl) Tryl.func5 (by kernel_rfl)
    (of_decide_eq_true (by kernel_rfl)) (by unfold Func.isWrapper; first | (rw [if_pos (by decide +kernel)]; kernel_rfl) | (rw [if_neg (by decide +kernel)]; exact ⟨rfl, rfl⟩))
    (fun os started H enc _ => first_lifted os started H enc)

/-- THE STATEMENT: the tied card. -/
theorem first_card : Rows.CheckFirstCardSaid :=
  Claim7.holds_tied_plain_at .later [] [.data, .handle, .pinned] true (true, "8a4fb594422cd1496fe7f917cca14313535d5470db29a2947c1ce538b5734d9a") true
    first_row (fun _ h => by cases h) (by kernel_rfl) (fun _ h => by cases h) checkFirst_row_tie rfl ⟨rfl, rfl⟩ (by kernel_rfl) rfl
    (fun f fn hf hfn => by
      obtain rfl : f = 5 := Option.some.inj ((show Tryl.prog.funcNamed "gleaner/gleanerlaw5.CheckFirst" = some 5 by kernel_rfl).symm.trans hf) |>.symm
      obtain rfl : fn = Tryl.f5 := (Option.some.inj (Tryl.func5.symm.trans hfn)).symm
      exact ⟨by kernel_rfl, fun j t ht => by
        rw [Tryl.params5] at ht
        have hm : t ∈ [40] := by simpa using Array.mem_of_getElem? ht
        have hall : ([40].all fun u => !Tryl.prog.wantsStandIn u) = true := by kernel_rfl
        exact (show Tryl.prog.wantsStandIn t = false by simpa using List.all_eq_true.1 hall t hm)⟩)
    (by kernel_rfl)
#print axioms first_card
end Go.Proofs.YtgjdlloiiedpmaaLiftDoor
