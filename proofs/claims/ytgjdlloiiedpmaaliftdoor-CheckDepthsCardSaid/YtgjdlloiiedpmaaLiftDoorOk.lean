/- Plain: a check's error is never 0; what a check that finds nothing says of each function. -/
import Derived.Test.YtgjdlloiiedpmaaLiftDoorCheck
namespace Go.Proofs.YtgjdlloiiedpmaaLiftDoor
open Go.RowKit

theorem insS_ne {L : Nat} {lo : Int} {C : Nat} {op n e : Int} (h : insS L lo C op n = some e) : e ≠ 0 := by
  unfold insS at h
  repeat' split at h
  all_goals first | (cases h; decide) | cases h
theorem inssS_ne {L : Nat} {lo : Int} {C : Nat} : ∀ {l : List SIns} {k : Nat} {i e : Int}, inssS L lo C k l = some (i, e) → e ≠ 0
  | [], _, _, _, h => by cases h
  | x :: r, k, i, e, h => by
    unfold inssS at h
    split at h
    · rename_i e' he
      cases h
      exact insS_ne he
    · exact inssS_ne h
theorem stepS_ne {D D' : List Int} {l n e : Int} (h : stepS D l n = (some e, D')) : e ≠ 0 := by
  unfold stepS at h
  split at h
  · cases h; decide
  · simp only at h
    generalize (if D.getD n.toNat (-1) < 0 then D.set n.toNat l else D) = D2 at h
    split at h
    · cases h
    · cases h; decide
theorem stepsS_ne {l : Int} : ∀ {ns : List Int} {D D' : List Int} {e : Int}, stepsS l ns D = (some e, D') → e ≠ 0
  | [], _, _, _, h => by cases h
  | n :: r, D, D', e, h => by
    unfold stepsS at h
    split at h
    · rename_i e' D2 he
      cases h
      exact stepS_ne he
    · exact stepsS_ne h
theorem oneS_ne {fs : List SFunc} {code : List SIns} {D D' : List Int} {k : Nat} {e : Int} (h : oneS fs code D k = (some e, D')) : e ≠ 0 := by
  unfold oneS at h
  simp only at h
  split at h
  · cases h; decide
  · split at h
    · cases h; decide
    · exact stepsS_ne h
theorem allS_ne {fs : List SFunc} {code : List SIns} : ∀ {f : Nat} {D : List Int} {G : List Bool} {i e : Int}, (allS fs code f D G).1 = some (i, e) → e ≠ 0
  | 0, _, _, _, _, h => by cases h
  | f + 1, D, G, i, e, h => by
    unfold allS at h
    split at h
    · cases h
    · split at h
      · rename_i e' D2 he
        cases h
        exact oneS_ne he
      · exact allS_ne h
theorem functionS_ne {fs : List SFunc} {k : Nat} {F : SFunc} {i e : Int} (h : functionS fs k F = some (i, e)) : e ≠ 0 := by
  unfold functionS at h
  split at h
  · cases h; decide
  · split at h
    · cases h; decide
    · split at h
      · cases h; decide
      · split at h
        · cases h; decide
        · split at h
          · rename_i r hr
            cases h
            exact inssS_ne hr
          · exact allS_ne h
theorem funcsS_ne {fs : List SFunc} : ∀ {l : List SFunc} {k : Nat} {f i e : Int}, funcsS fs k l = some (f, i, e) → e ≠ 0
  | [], _, _, _, _, h => by cases h
  | F :: r, k, f, i, e, h => by
    unfold funcsS at h
    split at h
    · rename_i i' e' he
      cases h
      exact functionS_ne he
    · exact funcsS_ne h
theorem headS_ne {J : SJob} {e : Int} (h : headS J = some e) : e ≠ 0 := by
  unfold headS at h
  repeat' split at h
  all_goals first | (cases h; decide) | cases h
theorem checkS_ne {J : SJob} {f i e : Int} (h : checkS J = some (f, i, e)) : e ≠ 0 := by
  unfold checkS at h
  split at h
  · rename_i e' he
    cases h
    exact headS_ne he
  · exact funcsS_ne h
theorem check_none {J : SJob} (h : (checkR J).2.2 = 0) : checkS J = none := by
  unfold checkR at h
  cases hc : checkS J with
  | none => rfl
  | some p =>
    obtain ⟨f, i, e⟩ := p
    rw [hc] at h
    exact absurd h (checkS_ne hc)
theorem funcsS_none {fs : List SFunc} : ∀ {l : List SFunc} {k j : Nat} {F : SFunc}, funcsS fs k l = none → l[j]? = some F → functionS fs (k + j) F = none
  | [], _, _, _, _, h => by simp at h
  | G :: r, k, j, F, h, hj => by
    unfold funcsS at h
    split at h
    · cases h
    · rename_i he
      cases j with
      | zero =>
        have : G = F := by simpa using hj
        subst this; exact he
      | succ j =>
        have := funcsS_none (j := j) h (by simpa using hj)
        rw [show k + (j + 1) = k + 1 + j by omega]; exact this
theorem functionS_none {fs : List SFunc} {k : Nat} {F : SFunc} (h : functionS fs k F = none) : 0 < F.code.length ∧ F.code.length ≤ 256 ∧ inssS fs.length F.locals F.code.length 0 F.code = none ∧ (walkS fs F.code).1 = none := by
  unfold functionS at h
  split at h
  · cases h
  · split at h
    · cases h
    · split at h
      · cases h
      · split at h
        · cases h
        · rename_i hl
          have hl : 0 < F.code.length ∧ F.code.length ≤ 256 := by omega
          split at h
          · cases h
          · rename_i hi
            exact ⟨hl.1, hl.2, hi, h⟩
theorem check_ok {J : SJob} (h : (checkR J).2.2 = 0) {k : Nat} {F : SFunc} (hF : J.funcs[k]? = some F) : 0 < F.code.length ∧ F.code.length ≤ 256 ∧ (walkS J.funcs F.code).1 = none := by
  have hc := check_none h
  unfold checkS at hc
  split at hc
  · cases hc
  · have := functionS_none (funcsS_none hc hF)
    exact ⟨this.1, this.2.1, this.2.2.2⟩
end Go.Proofs.YtgjdlloiiedpmaaLiftDoor
