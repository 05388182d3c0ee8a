/- Plain: what is said of a job of one function 'f' without arguments and locals. -/
import Derived.Test.YtgjdlloiiedpmaaLiftDoorLaw
import Derived.Test.YtgjdlloiiedpmaaLiftDoorLine
namespace Go.Proofs.YtgjdlloiiedpmaaLiftDoor
open Go.RowKit

theorem inss_none {L : Nat} {lo : Int} {C : Nat} : ∀ (l : List SIns) (k : Nat), (∀ x ∈ l, insS L lo C x.op x.n = none) → inssS L lo C k l = none
  | [], _, _ => rfl
  | x :: r, k, h => by
    unfold inssS
    rw [h x (by simp)]
    exact inss_none r (k + 1) (fun y hy => h y (by simp [hy]))
theorem namedF : nameOk [102] = true := by kernel_rfl
theorem named_one (code : List SIns) : namedS (oneJ code).funcs 0 = true := by
  unfold namedS
  have : nameOf (oneJ code).funcs 0 = ⟨#[102]⟩ := rfl
  rw [this]
  simp only [List.take_zero, List.all_nil, Bool.true_and]
  exact namedF
/-- Where a function's check comes out, of a job of one. -/
def at0 (r : Option (Int × Int)) : Option (Int × Int × Int) := r.map fun p => (0, p.1, p.2)
theorem check_oneJ {code : List SIns} (h1 : 0 < code.length) (h2 : code.length ≤ 256) :
    checkS (oneJ code) = at0 (match inssS 1 0 code.length 0 code with | some r => some r | none => (walkS (oneJ code).funcs code).1) := by
  have hh : headS (oneJ code) = none := by simp [headS, oneJ]
  have hf : functionS (oneJ code).funcs 0 ⟨⟨#[102]⟩, 0, 0, code⟩ = match inssS 1 0 code.length 0 code with | some r => some r | none => (walkS (oneJ code).funcs code).1 := by
    unfold functionS
    rw [if_neg (by rw [named_one]; simp), if_neg (by simp), if_neg (by simp), if_neg (by simp; omega)]
    rfl
  unfold checkS
  rw [hh]
  show funcsS (oneJ code).funcs 0 [⟨⟨#[102]⟩, 0, 0, code⟩] = _
  unfold funcsS
  rw [hf]
  cases (match inssS 1 0 code.length 0 code with | some r => some r | none => (walkS (oneJ code).funcs code).1) with
  | none => rfl
  | some p => rfl
theorem push_ins (L : Nat) (lo : Int) (C : Nat) (n : Int) : insS L lo C 1 n = none := by simp [insS, isOp, hasN]
theorem ret_ins (L : Nat) (lo : Int) (C : Nat) : insS L lo C 18 0 = none := by simp [insS, isOp]
theorem next_push (n at' : Int) : nextS 1 n at' = [at' + 1] := by simp [nextS]
theorem next_ret (n at' : Int) : nextS 18 n at' = [] := by simp [nextS]
theorem pops_push (n : Int) (L : Nat) (A : Int) : popsS 1 n L A = 0 := by simp [popsS]
theorem pops_ret (n : Int) (L : Nat) (A : Int) : popsS 18 n L A = 1 := by simp [popsS]
theorem pushes_push : pushesS 1 = 1 := rfl
theorem pushes_ret : pushesS 18 = 0 := rfl
end Go.Proofs.YtgjdlloiiedpmaaLiftDoor
