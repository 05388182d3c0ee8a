/- 'CheckEach': the plain law: what each wrong thing is called. -/
import Derived.Test.YtgjdlloiiedpmaaLiftDoorOk
import Derived.Test.YtgjdlloiiedpmaaLiftDoorOneJ
namespace Go.Proofs.YtgjdlloiiedpmaaLiftDoor
open Go.RowKit

/-- A job of one function 'f', with its numbers. -/
def jobE (nm : ByteArray) (fa fl : Int) (code : List SIns) (main : Int) (args : List Int) (fuel tasks : Int) : SJob := ⟨[⟨nm, fa, fl, code⟩], main, args, fuel, tasks⟩
def fName : ByteArray := ⟨#[102]⟩
def c2 : List SIns := [⟨1, 5⟩, ⟨18, 0⟩]
/-- Its third answer. -/
def Says (J : SJob) (e : Int) : Prop := ∃ f i, checkR J = (f, i, e)
theorem says_head {J : SJob} {e : Int} (h : headS J = some e) : Says J e := ⟨0, 0, by unfold checkR checkS; rw [h]; rfl⟩
theorem says_func {nm : ByteArray} {fa fl : Int} {code : List SIns} {main : Int} {args : List Int} {fuel tasks : Int} {i e : Int} (h : headS (jobE nm fa fl code main args fuel tasks) = none)
    (hf : functionS [⟨nm, fa, fl, code⟩] 0 ⟨nm, fa, fl, code⟩ = some (i, e)) : Says (jobE nm fa fl code main args fuel tasks) e :=
  ⟨0, i, by unfold checkR checkS; rw [h]; simp only [jobE]; unfold funcsS; rw [hf]; rfl⟩
theorem head_plain (nm : ByteArray) (fa fl : Int) (code : List SIns) (args : List Int) (h : (args.length : Int) = fa) : headS (jobE nm fa fl code 0 args 100 50) = none := by
  simp [headS, jobE, h]
theorem named_f (fa fl : Int) (code : List SIns) : namedS [⟨fName, fa, fl, code⟩] 0 = true := by
  unfold namedS
  have : nameOf [⟨fName, fa, fl, code⟩] 0 = ⟨#[102]⟩ := rfl
  rw [this]
  simp only [List.take_zero, List.all_nil, Bool.true_and]
  exact namedF
theorem namedBig : nameOk [70] = false := by kernel_rfl
theorem says_code {code : List SIns} {i e : Int} (h1 : 0 < code.length) (h2 : code.length ≤ 256) (h : inssS 1 0 code.length 0 code = some (i, e)) : Says (jobE fName 0 0 code 0 [] 100 50) e :=
  ⟨0, i, by
    show checkR (oneJ code) = _
    unfold checkR
    rw [check_oneJ h1 h2, h]; rfl⟩

section
variable {n : Int} (h1 : 1 ≤ n) (h2 : n ≤ 200)
theorem each0 : Says ⟨[], 0, [], 100, 50⟩ 14 := says_head (by simp [headS])
include h1 in
theorem each1 : Says (jobE fName 0 0 c2 0 [] (5000 + n) 50) 16 := says_head (by simp [headS, jobE]; omega)
include h1 in
theorem each2 : Says (jobE fName 0 0 c2 0 [] 100 (1 - n)) 16 := says_head (by simp [headS, jobE]; omega)
include h1 in
theorem each3 : Says (jobE fName 0 0 c2 n [] 100 50) 14 := says_head (by simp [headS, jobE]; omega)
include h1 in
theorem each4 (l : List Int) (hl : (l.length : Int) = n) : Says (jobE fName 0 0 c2 0 l 100 50) 15 := says_head (by simp [headS, jobE]; intro h; subst h; simp at hl; omega)
theorem each5 : Says (jobE ⟨#[70]⟩ 0 0 c2 0 [] 100 50) 6 := says_func (i := 0) (head_plain _ _ _ _ _ rfl) (by
  unfold functionS namedS
  have : nameOf [⟨⟨#[70]⟩, 0, 0, c2⟩] 0 = ⟨#[70]⟩ := rfl
  rw [this, show nameOk ((⟨#[70]⟩ : ByteArray).data.toList) = false from namedBig]
  simp)
include h1 in
theorem each6 (l : List Int) (hl : (l.length : Int) = 8 + n) : Says (jobE fName (8 + n) 0 c2 0 l 100 50) 15 := says_func (i := 0) (head_plain _ _ _ _ _ hl) (by
  unfold functionS
  rw [if_neg (by rw [named_f]; simp), if_pos (by simp; omega)])
include h1 in
theorem each7 : Says (jobE fName 0 (16 + n) c2 0 [] 100 50) 13 := says_func (i := 0) (head_plain _ _ _ _ _ rfl) (by
  unfold functionS
  rw [if_neg (by rw [named_f]; simp), if_neg (by simp), if_pos (by simp; omega)])
theorem each8 : Says (jobE fName 0 0 [] 0 [] 100 50) 3 := says_func (i := 0) (head_plain _ _ _ _ _ rfl) (by
  unfold functionS
  rw [if_neg (by rw [named_f]; simp), if_neg (by simp), if_neg (by simp), if_pos (by simp)])
include h1 in
theorem each9 : Says (jobE fName 0 0 [⟨19 + n, 5⟩, ⟨18, 0⟩] 0 [] 100 50) 10 := says_code (i := 0) (by simp) (by simp) (by
  have e : insS 1 0 2 (19 + n) 5 = some 10 := by
    unfold insS
    rw [if_pos (fun h => by have := h.1; simp [isOp] at this; omega)]
  show inssS 1 0 2 0 _ = _
  unfold inssS; rw [e]; rfl)
include h1 in
theorem each10 : Says (jobE fName 0 0 [⟨1, 5⟩, ⟨18, n⟩] 0 [] 100 50) 10 := says_code (i := 1) (by simp) (by simp) (by
  have e : insS 1 0 2 18 n = some 10 := by
    unfold insS
    rw [if_pos (fun h => by have := h.2; simp [hasN] at this; omega)]
  show inssS 1 0 2 0 _ = _
  unfold inssS; rw [push_ins]; simp only; unfold inssS; rw [e]; rfl)
theorem each11 : Says (jobE fName 0 0 [⟨5, n⟩, ⟨18, 0⟩] 0 [] 100 50) 13 := says_code (i := 0) (by simp) (by simp) (by
  unfold inssS; simp [insS, isOp, hasN])
include h1 in
theorem each12 : Says (jobE fName 0 0 [⟨14, 1 + n⟩, ⟨18, 0⟩] 0 [] 100 50) 11 := says_code (i := 0) (by simp) (by simp) (by
  have e : insS 1 0 2 14 (1 + n) = some 11 := by
    unfold insS
    rw [if_neg (by simp [hasN, isOp]), if_neg (by simp), if_pos ⟨.inl rfl, by omega⟩]
  show inssS 1 0 2 0 _ = _
  unfold inssS; rw [e]; rfl)
include h1 in
theorem each13 : Says (jobE fName 0 0 [⟨16, n⟩, ⟨18, 0⟩] 0 [] 100 50) 14 := says_code (i := 0) (by simp) (by simp) (by
  have e : insS 1 0 2 16 n = some 14 := by
    unfold insS
    rw [if_neg (by simp [hasN, isOp]), if_neg (by simp), if_neg (by simp), if_pos ⟨rfl, by omega⟩]
  show inssS 1 0 2 0 _ = _
  unfold inssS; rw [e]; rfl)
theorem each14 : Says (jobE fName 0 0 [⟨1, 5⟩] 0 [] 100 50) 11 := ⟨0, 0, by kernel_rfl⟩
theorem each15 : Says (jobE fName 0 0 [⟨4, 0⟩, ⟨18, 0⟩] 0 [] 100 50) 12 := ⟨0, 0, by kernel_rfl⟩
theorem each16 : Says (jobE fName 0 0 [⟨1, 0⟩, ⟨14, 0⟩] 0 [] 100 50) 12 := ⟨0, 1, by kernel_rfl⟩
theorem each17 : Says ⟨[⟨fName, 0, 0, c2⟩, ⟨fName, 0, 0, c2⟩], 0, [], 100, 50⟩ 6 := ⟨1, 0, by kernel_rfl⟩
end
end Go.Proofs.YtgjdlloiiedpmaaLiftDoor
