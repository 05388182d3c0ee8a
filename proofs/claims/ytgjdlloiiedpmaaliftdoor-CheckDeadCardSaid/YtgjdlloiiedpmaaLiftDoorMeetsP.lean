/- 'CheckMeets': the plain law: two ways that meet. -/
import Derived.Test.YtgjdlloiiedpmaaLiftDoorOneJ
import Derived.Test.YtgjdlloiiedpmaaLiftDoorDepths
namespace Go.Proofs.YtgjdlloiiedpmaaLiftDoor
open Go.RowKit

def meetC (a b : Nat) : List SIns := [⟨1, 0⟩, ⟨15, 3 + (a : Int)⟩] ++ List.replicate a ⟨1, 0⟩ ++ [⟨14, 3 + (a : Int) + b⟩] ++ List.replicate b ⟨1, 0⟩ ++ [⟨1, 0⟩, ⟨18, 0⟩]
theorem meet_len (a b : Nat) : (meetC a b).length = a + b + 5 := by simp [meetC]; omega
theorem meet_0 (a b : Nat) : (meetC a b)[0]? = some ⟨1, 0⟩ := by simp [meetC]
theorem meet_1 (a b : Nat) : (meetC a b)[1]? = some ⟨15, 3 + (a : Int)⟩ := by simp [meetC]
theorem meet_a {a b i : Nat} (h1 : 2 ≤ i) (h2 : i < a + 2) : (meetC a b)[i]? = some ⟨1, 0⟩ := by
  unfold meetC
  rw [List.getElem?_append_left (by simp <;> omega), List.getElem?_append_left (by simp <;> omega), List.getElem?_append_left (by simp <;> omega), List.getElem?_append_right (by simpa using h1), List.getElem?_replicate, if_pos (by simp <;> omega)]
theorem meet_j (a b : Nat) : (meetC a b)[a + 2]? = some ⟨14, 3 + (a : Int) + b⟩ := by
  unfold meetC
  rw [List.getElem?_append_left (by simp <;> omega), List.getElem?_append_left (by simp <;> omega), List.getElem?_append_right (by simp <;> omega)]
  simp [show a + 2 - (a + 1 + 1) = 0 by omega]
theorem meet_b {a b i : Nat} (h1 : a + 3 ≤ i) (h2 : i < a + b + 3) : (meetC a b)[i]? = some ⟨1, 0⟩ := by
  unfold meetC
  rw [List.getElem?_append_left (by simp <;> omega), List.getElem?_append_right (by simp <;> omega), List.getElem?_replicate, if_pos (by simp <;> omega)]
theorem meet_p (a b : Nat) : (meetC a b)[a + b + 3]? = some ⟨1, 0⟩ := by
  unfold meetC
  rw [List.getElem?_append_right (by simp <;> omega)]
  simp [show a + b + 3 - (a + (b + 1) + 1 + 1) = 0 by omega]
theorem meet_r (a b : Nat) : (meetC a b)[a + b + 4]? = some ⟨18, 0⟩ := by
  unfold meetC
  rw [List.getElem?_append_right (by simp <;> omega)]
  simp [show a + b + 4 - (a + (b + 1) + 1 + 1) = 1 by omega]

def hM (a : Nat) (j : Nat) : Int := if j = 0 then 0 else if j = 1 then 1 else if j ≤ a + 2 then (j : Int) - 2 else (j : Int) - (a + 3)
def e1M (a : Nat) (j : Nat) : Int := if j = a + 3 then 0 else -1
def e2M (a b : Nat) (j : Nat) : Int := if j = a + b + 3 then (a : Int) else if j = a + 3 then 0 else -1

theorem meet_step0 (fs : List SFunc) (a b f : Nat) : allS fs (meetC a b) (f + 1) (lineD (a + b + 5) 0 (hM a) fun _ => -1) (lineG (a + b + 5) 0) = allS fs (meetC a b) f (lineD (a + b + 5) 1 (hM a) fun _ => -1) (lineG (a + b + 5) 1) :=
  line_step f (meet_0 a b) (by omega) (next_push _ _) 0 1 (pops_push _ _ _) pushes_push (by simp [hM]) (by simp [hM]) (by omega) (by omega) (by simp [hM]) (by simp [hM]) (.inl (by omega))
theorem meet_step1 (fs : List SFunc) (a b f : Nat) : allS fs (meetC a b) (f + 1) (lineD (a + b + 5) 1 (hM a) fun _ => -1) (lineG (a + b + 5) 1) = allS fs (meetC a b) f (lineD (a + b + 5) 2 (hM a) (e1M a)) (lineG (a + b + 5) 2) := by
  have ho := one_tab (fs := fs) (n := a + b + 5) (d := fun j => if j ≤ 1 then hM a j else -1) (meet_1 a b) (by omega) 1 0 (by simp [popsS]) rfl (by simp [hM]) (by simp [hM]) (by omega) (by omega) (by simp [hM])
  have hn : nextS 15 (3 + (a : Int)) 1 = [((2 : Nat) : Int), ((a + 3 : Nat) : Int)] := by
    unfold nextS
    rw [if_neg (by decide), if_pos ⟨rfl, by omega⟩]
    simp; omega
  have hl : (if (1 : Nat) ≤ 1 then hM a 1 else -1) - 1 + 0 = 0 := by simp [hM]
  simp only [hl] at ho
  have hs : stepsS 0 (nextS 15 (3 + (a : Int)) ((1 : Nat) : Int)) (tab (a + b + 5) fun j => if j ≤ 1 then hM a j else -1) = (none, lineD (a + b + 5) 2 (hM a) (e1M a)) := by
    rw [show ((1 : Nat) : Int) = 1 by rfl, hn]
    unfold stepsS
    rw [step_new (by omega) (by simp)]
    simp only
    unfold stepsS
    rw [step_new (by omega) (by rw [if_neg (by omega), if_neg (by omega)]; omega)]
    simp only [stepsS]
    refine congrArg _ (tab_ext fun j _ => ?_)
    by_cases h3 : j = a + 3
    · subst h3; rw [if_pos rfl, if_neg (by omega)]; simp [e1M]
    · rw [if_neg h3]
      by_cases h2 : j = 2
      · subst h2; simp [hM]
      · rw [if_neg h2]
        by_cases h1 : j ≤ 1
        · rw [if_pos h1, if_pos (by omega)]
        · rw [if_neg h1, if_neg (by omega)]; simp [e1M, h3]
  rw [all_step f (line_least (by omega) (by simp [hM])) (ho.trans hs), lineG_set]
theorem meet_runA (fs : List SFunc) {a b : Nat} (f : Nat) (ha : a ≤ 20) : allS fs (meetC a b) (f + a) (lineD (a + b + 5) 2 (hM a) (e1M a)) (lineG (a + b + 5) 2) = allS fs (meetC a b) f (lineD (a + b + 5) (2 + a) (hM a) (e1M a)) (lineG (a + b + 5) (2 + a)) :=
  line_run a 2 f fun i h1 h2 => ⟨⟨1, 0⟩, 0, 1, meet_a h1 (by omega), by omega, next_push _ _, pops_push _ _ _, pushes_push,
    by unfold hM; rw [if_neg (by omega), if_neg (by omega), if_pos (by omega)]; omega, by unfold hM; rw [if_neg (by omega), if_neg (by omega), if_pos (by omega)]; omega, by omega, by omega,
    by unfold hM; rw [if_neg (by omega), if_neg (by omega), if_pos (by omega), if_neg (by omega), if_neg (by omega), if_pos (by omega)]; omega, by unfold hM; rw [if_neg (by omega), if_neg (by omega), if_pos (by omega)]; omega, .inl (by unfold e1M; rw [if_neg (by omega)]; omega)⟩

theorem hM_a (a : Nat) : hM a (a + 2) = a := by unfold hM; rw [if_neg (by omega)]; split <;> first | omega | (rw [if_pos (by omega)]; omega)
theorem hM_b {a i : Nat} (h : a + 3 ≤ i) : hM a i = (i : Int) - (a + 3) := by unfold hM; rw [if_neg (by omega), if_neg (by omega), if_neg (by omega)]
theorem meet_next (a b : Nat) (k : Int) : nextS 14 (3 + (a : Int) + b) k = [((a + b + 3 : Nat) : Int)] := by
  unfold nextS
  rw [if_pos rfl]
  congr 1
  omega
/-- The jump, where nothing is in its way. -/
theorem meet_jump (fs : List SFunc) {a b : Nat} (f : Nat) (ha : a ≤ 20) (h : 0 < b ∨ a = 0) :
    allS fs (meetC a b) (f + 1) (lineD (a + b + 5) (a + 2) (hM a) (e1M a)) (lineG (a + b + 5) (a + 2)) = allS fs (meetC a b) f (lineD (a + b + 5) (a + 3) (hM a) (e2M a b)) (lineG (a + b + 5) (a + 3)) := by
  have ho := one_tab (fs := fs) (n := a + b + 5) (d := fun j => if j ≤ a + 2 then hM a j else e1M a j) (meet_j a b) (by omega) 0 0 (by simp [popsS]) rfl (by simp [hM_a]) (by simp [hM_a]; omega) (by omega) (by omega) (by simp [hM_a]; omega)
  have hl : (if a + 2 ≤ a + 2 then hM a (a + 2) else e1M a (a + 2)) - 0 + 0 = (a : Int) := by simp [hM_a]
  simp only [hl] at ho
  rw [meet_next] at ho
  have hs : stepsS (a : Int) [((a + b + 3 : Nat) : Int)] (tab (a + b + 5) fun j => if j ≤ a + 2 then hM a j else e1M a j) = (none, lineD (a + b + 5) (a + 3) (hM a) (e2M a b)) := by
    unfold stepsS
    by_cases hb : 0 < b
    · rw [step_new (by omega) (by rw [if_neg (by omega)]; unfold e1M; rw [if_neg (by omega)]; omega)]
      simp only [stepsS]
      refine congrArg _ (tab_ext fun j _ => ?_)
      by_cases h1 : j ≤ a + 2
      · rw [if_neg (by omega), if_pos h1, if_pos (by omega)]
      · by_cases h2 : j = a + 3
        · subst h2; rw [if_neg (by omega), if_neg (by omega), if_pos (Nat.le_refl _), hM_b (Nat.le_refl _)]; simp [e1M]
        · have h5 : ¬ j ≤ a + 3 := by omega
          by_cases h4 : j = a + b + 3
          · simp only [if_pos h4, if_neg h5, e2M]
          · simp only [if_neg h4, if_neg h1, if_neg h5, e2M, e1M, if_neg h2]
    · have ha0 : a = 0 := by omega
      have hb0 : b = 0 := by omega
      subst ha0; subst hb0
      rw [step_same (by omega) (by rw [if_neg (by omega)]; simp [e1M]) (by rw [if_neg (by omega)]; simp [e1M])]
      simp only [stepsS]
      refine congrArg _ (tab_ext fun j _ => ?_)
      by_cases h1 : j ≤ 0 + 2
      · rw [if_pos h1, if_pos (by omega)]
      · by_cases h2 : j = 3
        · subst h2; simp [e1M, hM]
        · rw [if_neg h1, if_neg (by omega)]; simp [e1M, e2M, h2]
  rw [all_step f (line_least (by omega) (by rw [hM_a]; omega)) (ho.trans hs), lineG_set]
/-- The jump into the other way. -/
theorem meet_jump_bad (fs : List SFunc) {a : Nat} (f : Nat) (ha : a ≤ 20) (h : 0 < a) :
    (allS fs (meetC a 0) (f + 1) (lineD (a + 0 + 5) (a + 2) (hM a) (e1M a)) (lineG (a + 0 + 5) (a + 2))).1 = some (((a + 2 : Nat) : Int), 12) := by
  have ho := one_tab (fs := fs) (n := a + 0 + 5) (d := fun j => if j ≤ a + 2 then hM a j else e1M a j) (meet_j a 0) (by omega) 0 0 (by simp [popsS]) rfl (by simp [hM_a]) (by simp [hM_a]; omega) (by omega) (by omega) (by simp [hM_a]; omega)
  have hl : (if a + 2 ≤ a + 2 then hM a (a + 2) else e1M a (a + 2)) - 0 + 0 = (a : Int) := by simp [hM_a]
  simp only [hl] at ho
  rw [meet_next] at ho
  have hs : stepsS (a : Int) [((a + 0 + 3 : Nat) : Int)] (tab (a + 0 + 5) fun j => if j ≤ a + 2 then hM a j else e1M a j) = (some 12, tab (a + 0 + 5) fun j => if j ≤ a + 2 then hM a j else e1M a j) := by
    unfold stepsS
    rw [step_other (by omega) (by rw [if_neg (by omega)]; simp [e1M]) (by rw [if_neg (by omega)]; simp [e1M]; omega)]
  rw [all_err f (line_least (by omega) (by rw [hM_a]; omega)) (ho.trans hs)]
theorem meet_runB (fs : List SFunc) {a b : Nat} (m f : Nat) (hb : b ≤ 20) (hm : m < b ∨ (m = b ∧ a = b)) : allS fs (meetC a b) (f + m) (lineD (a + b + 5) (a + 3) (hM a) (e2M a b)) (lineG (a + b + 5) (a + 3)) = allS fs (meetC a b) f (lineD (a + b + 5) (a + 3 + m) (hM a) (e2M a b)) (lineG (a + b + 5) (a + 3 + m)) :=
  line_run m (a + 3) f fun i h1 h2 => ⟨⟨1, 0⟩, 0, 1, meet_b h1 (by omega), by omega, next_push _ _, pops_push _ _ _, pushes_push,
    by rw [hM_b h1]; omega, by rw [hM_b h1]; omega, by omega, by omega, by rw [hM_b h1, hM_b (by omega)]; omega, by rw [hM_b (by omega)]; omega, by
      rw [hM_b (by omega : a + 3 ≤ i + 1)]
      unfold e2M
      by_cases h3 : i + 1 = a + b + 3
      · right; rw [if_pos h3]; omega
      · left; rw [if_neg h3, if_neg (by omega)]; omega⟩

theorem meet_start (fs : List SFunc) (a b : Nat) : walkS fs (meetC a b) = allS fs (meetC a b) (a + b + 5) (lineD (a + b + 5) 0 (hM a) fun _ => -1) (lineG (a + b + 5) 0) :=
  walkS_line (meet_len a b) (by simp [hM]) (fun _ _ _ => rfl)
theorem meet_to_jump (fs : List SFunc) {a b : Nat} (ha : a ≤ 20) : walkS fs (meetC a b) = allS fs (meetC a b) (b + 2 + 1) (lineD (a + b + 5) (a + 2) (hM a) (e1M a)) (lineG (a + b + 5) (a + 2)) := by
  have h1 := meet_step0 fs a b (b + 2 + 1 + a + 1)
  have h2 := meet_step1 fs a b (b + 2 + 1 + a)
  have h3 := meet_runA fs (a := a) (b := b) (b + 2 + 1) ha
  rw [meet_start]
  have e : a + b + 5 = b + 2 + 1 + a + 1 + 1 := by omega
  have h0 : allS fs (meetC a b) (a + b + 5) (lineD (a + b + 5) 0 (hM a) fun _ => -1) (lineG (a + b + 5) 0) = allS fs (meetC a b) (b + 2 + 1 + a + 1 + 1) (lineD (a + b + 5) 0 (hM a) fun _ => -1) (lineG (a + b + 5) 0) := by
    congr 1
  rw [h0, h1, h2, h3, Nat.add_comm 2 a]
theorem meet_bad (fs : List SFunc) {a b : Nat} (ha : a ≤ 20) (hb : b ≤ 20) (h : a ≠ b) : ∃ i, (walkS fs (meetC a b)).1 = some (i, 12) := by
  rw [meet_to_jump fs ha]
  by_cases hb0 : b = 0
  · subst hb0
    exact ⟨_, meet_jump_bad fs _ ha (by omega)⟩
  · rw [meet_jump fs (b + 2) ha (.inl (by omega))]
    obtain ⟨c, rfl⟩ : ∃ c, b = c + 1 := ⟨b - 1, by omega⟩
    have h1 := meet_runB fs (a := a) (b := c + 1) c (2 + 1) hb (.inl (by omega))
    rw [show c + 1 + 2 = 2 + 1 + c by omega, h1]
    have hk : hM a (a + 3 + c) = c := by rw [hM_b (by omega)]; omega
    have ho := one_tab (fs := fs) (n := a + (c + 1) + 5) (d := fun j => if j ≤ a + 3 + c then hM a j else e2M a (c + 1) j) (meet_b (a := a) (b := c + 1) (i := a + 3 + c) (by omega) (by omega)) (by omega) 0 1 (pops_push _ _ _) pushes_push (by simp [hk]) (by simp [hk]; omega) (by omega) (by omega) (by simp [hk]; omega)
    have hl : (if a + 3 + c ≤ a + 3 + c then hM a (a + 3 + c) else e2M a (c + 1) (a + 3 + c)) - 0 + 1 = (c : Int) + 1 := by simp [hk]
    simp only [hl] at ho
    rw [next_push] at ho
    have he : (if a + (c + 1) + 3 ≤ a + 3 + c then hM a (a + (c + 1) + 3) else e2M a (c + 1) (a + (c + 1) + 3)) = (a : Int) := by rw [if_neg (by omega)]; simp [e2M]
    have hs : stepsS ((c : Int) + 1) [((a + 3 + c : Nat) : Int) + 1] (tab (a + (c + 1) + 5) fun j => if j ≤ a + 3 + c then hM a j else e2M a (c + 1) j) = (some 12, tab (a + (c + 1) + 5) fun j => if j ≤ a + 3 + c then hM a j else e2M a (c + 1) j) := by
      unfold stepsS
      rw [show ((a + 3 + c : Nat) : Int) + 1 = ((a + (c + 1) + 3 : Nat) : Int) by omega]
      rw [step_other (by omega) (by simp only [he]; omega) (by simp only [he]; omega)]
    exact ⟨_, by rw [all_err 2 (line_least (by omega) (by rw [hk]; omega)) (ho.trans hs)]⟩
theorem meet_good (fs : List SFunc) {a : Nat} (ha : a ≤ 20) : walkS fs (meetC a a) = (none, lineD (a + a + 5) (a + a + 4) (hM a) (e2M a a)) := by
  rw [meet_to_jump fs ha, meet_jump fs (a + 2) ha (by omega)]
  have h1 := meet_runB fs (a := a) (b := a) a 2 ha (.inr ⟨rfl, rfl⟩)
  rw [show a + 2 = 2 + a by omega, h1]
  have hk : hM a (a + 3 + a) = a := by rw [hM_b (by omega)]; omega
  have hk1 : hM a (a + 3 + a + 1) = (a : Int) + 1 := by rw [hM_b (by omega)]; omega
  rw [line_step 1 (by rw [show a + 3 + a = a + a + 3 by omega]; exact meet_p a a) (by omega) (next_push _ _) 0 1 (pops_push _ _ _) pushes_push (by rw [hk]; omega) (by rw [hk]; omega) (by omega) (by omega) (by rw [hk, hk1]; omega) (by rw [hk1]; omega) (.inl (by unfold e2M; rw [if_neg (by omega), if_neg (by omega)]; omega))]
  rw [show a + 3 + a + 1 = a + a + 4 by omega] at hk1 ⊢
  have ho := one_tab (fs := fs) (n := a + a + 5) (d := fun j => if j ≤ a + a + 4 then hM a j else e2M a a j) (meet_r a a) (by omega) 1 0 (pops_ret _ _ _) pushes_ret (by simp [hk1]) (by simp [hk1]; omega) (by omega) (by omega) (by simp [hk1]; omega)
  rw [next_ret] at ho
  rw [show (1 : Nat) = 0 + 1 by rfl, all_step 0 (line_least (by omega) (by rw [hk1]; omega)) ho]
  rfl

theorem meet_ins (a b : Nat) : inssS 1 0 (meetC a b).length 0 (meetC a b) = none := by
  rw [meet_len]
  refine inss_none _ _ fun x hx => ?_
  unfold meetC at hx
  simp only [List.mem_append, List.mem_cons, List.mem_nil_iff, or_false, List.mem_replicate] at hx
  rcases hx with (((((rfl | rfl) | ⟨_, rfl⟩) | rfl) | ⟨_, rfl⟩) | (rfl | rfl))
  · exact push_ins _ _ _ _
  · simp [insS, isOp, hasN]; omega
  · exact push_ins _ _ _ _
  · simp [insS, isOp, hasN]; omega
  · exact push_ins _ _ _ _
  · exact push_ins _ _ _ _
  · exact ret_ins _ _ _
theorem meet_check_good {a : Nat} (ha : a ≤ 20) : checkR (oneJ (meetC a a)) = (0, 0, 0) := by
  unfold checkR
  rw [check_oneJ (by rw [meet_len]; omega) (by rw [meet_len]; omega), meet_ins]
  simp only [meet_good _ ha]
  rfl
theorem meet_check_bad {a b : Nat} (ha : a ≤ 20) (hb : b ≤ 20) (h : a ≠ b) : ∃ i, checkR (oneJ (meetC a b)) = (0, i, 12) := by
  obtain ⟨i, hi⟩ := meet_bad (oneJ (meetC a b)).funcs ha hb h
  refine ⟨i, ?_⟩
  unfold checkR
  rw [check_oneJ (by rw [meet_len]; omega) (by rw [meet_len]; omega), meet_ins]
  simp only [hi]
  rfl
def meetD (a : Nat) : List Int := lineD (a + a + 5) (a + a + 4) (hM a) (e2M a a)
theorem meet_depths {a : Nat} (ha : a ≤ 20) : depthsS (oneJ (meetC a a)) 0 = some (meetD a) := by
  unfold depthsS
  rw [meet_check_good ha, if_neg (by simp [oneJ])]
  show some (walkS (oneJ (meetC a a)).funcs (meetC a a)).2 = _
  rw [meet_good _ ha]; rfl
theorem meetD_len (a : Nat) : (meetD a).length = a + a + 5 := tab_len _ _
theorem meetD_get (a : Nat) : (meetD a)[a + a + 3]? = some (a : Int) := by
  unfold meetD lineD
  rw [tab_get (by omega), if_pos (by omega), hM_b (by omega)]
  congr 1; omega
end Go.Proofs.YtgjdlloiiedpmaaLiftDoor
