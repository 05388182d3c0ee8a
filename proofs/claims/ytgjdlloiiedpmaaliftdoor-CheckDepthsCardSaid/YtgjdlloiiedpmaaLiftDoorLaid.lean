/- The rows' condition on the listed variables: what it gives a walk, and a world that meets it. -/
import Derived.Test.YtgjdlloiiedpmaaLiftDoorRows
import Derived.Test.YtgjdlloiiedpmaaLiftDoorAsked
import Derived.ProofKit
import Derived.OpenShut
import Derived.ChangeSame
import Derived.ChangeVars
import Derived.JoinedOf
import Derived.RowKit
import Derived.RowKitTokens
import Derived.LaidLaws
import Derived.LaidHandle
import Derived.LaidSub
import Derived.LaidMore
import Derived.Lay
import Derived.Stop.Joined
namespace Go.Proofs.YtgjdlloiiedpmaaLiftDoor
open Go.ChangeShapes Go.WideShapes Go.ChangeAt Go.RowKit

theorem ownKnob_none : ownKnob Tryl.prog.godebug = none := by kernel_rfl
theorem errVar : Tryl.prog.globalNamed "errors.errorType" = some 0 := by kernel_rfl
theorem rtypeT : (Tryl.prog.cutTypes.find? (·.1 == "internal/reflectlite.rtype")).map (·.2) = some 91 := by kernel_rfl
theorem oneRow : ((List.range (257 - 100)).filter fun t => Tryl.prog.rowNamed t [101, 114, 114, 111, 114]) = [62] := by kernel_rfl
theorem typesN : Tryl.prog.types.size = 257 - 100 := by kernel_rfl

/-- The list that the rows bear. -/
noncomputable def laidL : List (String × DataW Unit) := [("unicode/utf8.acceptRanges", Rows.laid_unicode_utf8_acceptRanges), ("errors.errorType", Rows.laid_errors_errorType), ("unicode/utf8.first", Rows.laid_unicode_utf8_first)]
noncomputable def laidD : List (String × DataW Unit) := [("unicode/utf8.acceptRanges", Rows.laid_unicode_utf8_acceptRanges), ("unicode/utf8.first", Rows.laid_unicode_utf8_first)]

/-- WHAT THE CONDITION GIVES A WALK: errors' variable. -/
theorem errVar_of_laid {W : World} (h : laidMetH Tryl.prog laidL W) : ErrVar W := by
  have h2 := (laidMetH_iff.1 h).2
  have hm : ("errors.errorType", (Rows.laid_errors_errorType : DataW Unit)) ∈ laidL.filter fun x => x.2.handleName?.isSome := List.mem_filter.2 ⟨by simp [laidL], by kernel_rfl⟩
  obtain ⟨name, u, ty, e1, e2, e3, e4, e5⟩ := h2 _ hm
  have en : name = [101, 114, 114, 111, 114] := (Option.some.inj e1).symm
  subst en
  obtain rfl := Option.some.inj (rtypeT.symm.trans e2)
  have hm : ty ∈ (List.range (257 - 100)).filter fun t => Tryl.prog.rowNamed t [101, 114, 114, 111, 114] := List.mem_filter.2 ⟨List.mem_range.2 (by rw [← typesN]; exact e3), e4⟩
  rw [oneRow] at hm
  obtain rfl := List.mem_singleton.1 hm
  have hh : typeHandle Tryl.prog 62 = .pointer (some ⟨4, 62, none⟩) := by kernel_rfl
  rw [hh] at e5
  simpa using World.var?_cell errVar e5 0

/-- A world that meets the condition. -/
noncomputable def laidW0 (os : Os) : World :=
  let w0 := World.holding Tryl.prog os ⟨#[], #[], []⟩
  { w0 with heap := w0.heap.modify 0 fun
      | .cells _ t frozen => .cells #[.iface 91 (.agg #[.pointer (some ⟨4, 62, none⟩)])] t frozen
      | o => o }
noncomputable def laidW (os : Os) : World := (laidW0 os).layVars Tryl.prog laidD
theorem laidW_os (os : Os) : (laidW os).os = os := World.layVars_os _ _ _
theorem laidW_met (os : Os) (args : Array Value) : laidMetH Tryl.prog laidL ((laidW os).forCall (fun _ _ => 0) ⟨#[], args, []⟩).memory := by
  refine laidMetH_of_parts ?_ (by kernel_rfl)
  have h : laidMet Tryl.prog laidD (laidW os) :=
    laidMet_layVars (w0 := laidW0 os) (w' := laidW os) (laid := laidD) ["unicode/utf8.acceptRanges", "unicode/utf8.first"] [] (by kernel_rfl) (by kernel_rfl) (by kernel_rfl) LaidIn.none
  have e : (laidL.filter fun x => x.2.handleName?.isNone) = laidD := by kernel_rfl
  rw [e]
  exact h.of_heap (by simp [World.memory, World.forCall, Input.heap])
end Go.Proofs.YtgjdlloiiedpmaaLiftDoor
