/- 'CheckDead': the plain law: what is never come to. -/
import Derived.Test.YtgjdlloiiedpmaaLiftDoorDepths
import Derived.Test.YtgjdlloiiedpmaaLiftDoorOneJ
namespace Go.Proofs.YtgjdlloiiedpmaaLiftDoor
open Go.RowKit

def deadC (l : List SIns) : List SIns := [⟨1, 5⟩, ⟨18, 0⟩] ++ l
theorem dead_len (l : List SIns) : (deadC l).length = l.length + 2 := by simp [deadC]
def hDead (j : Nat) : Int := if j = 0 then 0 else 1
def deadD (n : Nat) : List Int := lineD n 1 hDead fun _ => -1
theorem dead_walk (fs : List SFunc) (l : List SIns) : walkS fs (deadC l) = (none, deadD (l.length + 2)) := by
  rw [walkS_line (h := hDead) (e := fun _ => -1) (dead_len l) rfl (fun _ _ _ => rfl)]
  rw [show l.length + 2 = (l.length + 1) + 1 by rfl]
  rw [line_step (l.length + 1) (x := ⟨1, 5⟩) (by simp [deadC]) (by omega) (next_push _ _) 0 1 (pops_push _ _ _) pushes_push (by simp [hDead]) (by simp [hDead]) (by omega) (by omega) (by simp [hDead]) (by simp [hDead]) (.inl (by omega))]
  have ho := one_tab (fs := fs) (code := deadC l) (n := l.length + 1 + 1) (k := 1) (d := fun j => if j ≤ 1 then hDead j else -1) (x := ⟨18, 0⟩) (by simp [deadC]) (by omega) 1 0 (pops_ret _ _ _) pushes_ret (by simp [hDead]) (by simp [hDead]) (by omega) (by omega) (by simp [hDead])
  rw [next_ret] at ho
  rw [all_step l.length (line_least (by omega) (by simp [hDead])) ho]
  rw [all_stop]
  · rfl
  · have e : (lineG (l.length + 1 + 1) (0 + 1)).set 1 true = tab (l.length + 1 + 1) fun j => if j = 1 then true else decide (j < 1) := by
      unfold lineG; rw [tab_set]
    rw [e]
    refine least_tab_none (n := l.length + 1 + 1) (d := fun j => if j ≤ 1 then hDead j else -1) (g := fun j => if j = 1 then true else decide (j < 1)) (fun j _ => ?_)
    by_cases h1 : j ≤ 1
    · right
      by_cases h2 : j = 1
      · simp [h2]
      · simp [h2]; omega
    · left; simp [h1]
/-- What is wrong with an instruction, in a code of n. -/
def wantD (n : Nat) (x : SIns) : Int := (insS 1 0 n x.op x.n).getD 0
theorem wantD_ne {n : Nat} {x : SIns} : wantD n x = 0 ↔ insS 1 0 n x.op x.n = none := by
  unfold wantD
  cases h : insS 1 0 n x.op x.n with
  | none => simp
  | some e => simp; exact insS_ne h
theorem inss_first {L : Nat} {lo : Int} {C : Nat} {e : Int} : ∀ (l : List SIns) (k j : Nat) (x : SIns), l[j]? = some x → insS L lo C x.op x.n = some e → (∀ i y, i < j → l[i]? = some y → insS L lo C y.op y.n = none) → inssS L lo C k l = some (((k + j : Nat) : Int), e)
  | [], _, _, _, h, _, _ => by simp at h
  | z :: r, k, 0, x, h, hx, _ => by
    have : z = x := by simpa using h
    subst this
    unfold inssS; rw [hx]; simp
  | z :: r, k, j + 1, x, h, hx, hb => by
    unfold inssS
    rw [hb 0 z (by omega) rfl]
    simp only
    rw [inss_first r (k + 1) j x (by simpa using h) hx (fun i y hi hy => hb (i + 1) y (by omega) (by simpa using hy)), show k + 1 + j = k + (j + 1) by omega]
theorem dead_ins (l : List SIns) : inssS 1 0 (l.length + 2) 0 (deadC l) = inssS 1 0 (l.length + 2) 2 l := by
  unfold deadC
  show inssS 1 0 (l.length + 2) 0 (⟨1, 5⟩ :: ⟨18, 0⟩ :: l) = _
  conv => lhs; unfold inssS
  rw [push_ins]
  simp only
  conv => lhs; unfold inssS
  rw [ret_ins]
theorem dead_bad {l : List SIns} (hl : l.length ≤ 100) {j : Nat} {x : SIns} (hx : l[j]? = some x) (hw : wantD (l.length + 2) x ≠ 0) (hb : ∀ i y, i < j → l[i]? = some y → wantD (l.length + 2) y = 0) :
    checkR (oneJ (deadC l)) = (0, ((j + 2 : Nat) : Int), wantD (l.length + 2) x) := by
  cases hi : insS 1 0 (l.length + 2) x.op x.n with
  | none => exact absurd (wantD_ne.2 hi) hw
  | some e =>
    have hwe : wantD (l.length + 2) x = e := by unfold wantD; rw [hi]; rfl
    unfold checkR
    rw [check_oneJ (by rw [dead_len]; omega) (by rw [dead_len]; omega), dead_len, dead_ins, inss_first l 2 j x hx hi (fun i y h1 h2 => wantD_ne.1 (hb i y h1 h2)), hwe, Nat.add_comm 2 j]
    rfl
theorem dead_good {l : List SIns} (hl : l.length ≤ 100) (hb : ∀ y ∈ l, wantD (l.length + 2) y = 0) : checkR (oneJ (deadC l)) = (0, 0, 0) := by
  unfold checkR
  rw [check_oneJ (by rw [dead_len]; omega) (by rw [dead_len]; omega), dead_len, dead_ins, inss_none l 2 (fun x hx => wantD_ne.1 (hb x hx))]
  simp only [dead_walk]
  rfl
theorem dead_depths_good {l : List SIns} (h : checkR (oneJ (deadC l)) = (0, 0, 0)) : depthsS (oneJ (deadC l)) 0 = some (deadD (l.length + 2)) := by
  unfold depthsS
  rw [h, if_neg (by simp [oneJ])]
  show some (walkS (oneJ (deadC l)).funcs (deadC l)).2 = _
  rw [dead_walk]
theorem dead_depths_bad {l : List SIns} {r : Int × Int × Int} (h : checkR (oneJ (deadC l)) = r) (he : r.2.2 ≠ 0) : depthsS (oneJ (deadC l)) 0 = none := by
  unfold depthsS
  rw [h, if_pos (.inl he)]
theorem deadD_len (n : Nat) : (deadD n).length = n := tab_len _ _
theorem deadD_get {n k : Nat} (h : k < n) : (deadD n)[k]? = some (if k = 0 then 0 else if k = 1 then 1 else -1) := by
  unfold deadD lineD
  rw [tab_get h]
  by_cases h0 : k = 0
  · subst h0; simp [hDead]
  · by_cases h1 : k = 1
    · subst h1; simp [hDead]
    · rw [if_neg (by omega), if_neg h0, if_neg h1]
/-- The law's own tests. -/
theorem want_eq (n : Nat) (op a : Int) : wantD n ⟨op, a⟩ =
    if op < 1 ∨ 19 < op ∨ (hasN op = false ∧ a ≠ 0) then 10 else if op = 5 ∨ op = 6 then 13 else if (op = 14 ∨ op = 15) ∧ (a < 0 ∨ (n : Int) ≤ a) then 11 else if op = 16 ∧ a ≠ 0 then 14 else 0 := by
  show (insS 1 0 n op a).getD 0 = _
  unfold insS isOp
  by_cases h1 : op < 1 ∨ 19 < op ∨ (hasN op = false ∧ a ≠ 0)
  · rw [if_pos h1, if_pos]
    · rfl
    · rintro ⟨h2, h3⟩
      simp only [Bool.and_eq_true, decide_eq_true_eq] at h2
      rcases h1 with h | h | ⟨h, h'⟩
      · omega
      · omega
      · rcases h3 with h3 | h3
        · rw [h] at h3; cases h3
        · exact h' h3
  · rw [if_neg h1, if_neg]
    · by_cases h5 : op = 5 ∨ op = 6
      · rw [if_pos h5, if_pos ⟨h5, by omega⟩]; rfl
      · rw [if_neg h5, if_neg (fun h => h5 h.1)]
        by_cases h14 : (op = 14 ∨ op = 15) ∧ (a < 0 ∨ (n : Int) ≤ a)
        · rw [if_pos h14, if_pos ⟨h14.1, by omega⟩]; rfl
        · rw [if_neg h14, if_neg (fun h => h14 ⟨h.1, by omega⟩)]
          by_cases h16 : op = 16 ∧ a ≠ 0
          · rw [if_pos h16, if_pos ⟨h16.1, by omega⟩]; rfl
          · rw [if_neg h16, if_neg (fun h => h16 ⟨h.1, by omega⟩)]; rfl
    · intro hh
      apply hh
      refine ⟨by simp; omega, ?_⟩
      cases hN : hasN op with
      | true => exact .inl rfl
      | false =>
        right
        by_cases ha : a = 0
        · exact ha
        · exact absurd (.inr (.inr ⟨hN, ha⟩)) h1
end Go.Proofs.YtgjdlloiiedpmaaLiftDoor
