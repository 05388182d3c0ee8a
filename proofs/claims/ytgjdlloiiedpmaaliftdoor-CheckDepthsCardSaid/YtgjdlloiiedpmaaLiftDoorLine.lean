/- Plain: going over code that runs on in a line. No program in sight. -/
import Derived.Test.YtgjdlloiiedpmaaLiftDoorAll
namespace Go.Proofs.YtgjdlloiiedpmaaLiftDoor
open Go.RowKit

def tab {α : Type} (n : Nat) (f : Nat → α) : List α := (List.range n).map f
section
variable {α : Type} {n : Nat} {f g : Nat → α}
theorem tab_len (n : Nat) (f : Nat → α) : (tab n f).length = n := by simp [tab]
theorem tab_get {k : Nat} (h : k < n) : (tab n f)[k]? = some (f k) := by simp [tab, h]
theorem tab_getD {k : Nat} (h : k < n) (y : α) : (tab n f).getD k y = f k := by rw [List.getD_eq_getElem?_getD, tab_get h]; rfl
theorem tab_ext (h : ∀ j, j < n → f j = g j) : tab n f = tab n g := List.map_congr_left fun j hj => h j (List.mem_range.1 hj)
theorem tab_set (k : Nat) (x : α) : (tab n f).set k x = tab n fun j => if j = k then x else f j := by
  apply List.ext_getElem?
  intro j
  rw [List.getElem?_set]
  by_cases hj : j < n
  · rw [tab_get hj, tab_get hj, tab_len]
    by_cases hk : k = j
    · subst hk; simp [hj]
    · rw [if_neg hk, if_neg (fun h => hk h.symm)]
  · rw [List.getElem?_eq_none (by rw [tab_len]; omega), List.getElem?_eq_none (by rw [tab_len]; omega), tab_len]
    by_cases hk : k = j
    · subst hk; simp [hj]
    · rw [if_neg hk]
theorem tab_replicate (n : Nat) (x : α) : List.replicate n x = tab n fun _ => x := by
  apply List.ext_getElem?
  intro j
  by_cases hj : j < n
  · rw [tab_get hj, List.getElem?_replicate, if_pos hj]
  · rw [List.getElem?_eq_none (by simp; omega), List.getElem?_eq_none (by rw [tab_len]; omega)]
end

theorem wrap_id {x : Int} (h1 : -9223372036854775808 ≤ x) (h2 : x < 9223372036854775808) : wrap64 x = x := by unfold wrap64; omega

section
variable {fs : List SFunc} {code : List SIns} {n : Nat} {d : Nat → Int} {g : Nat → Bool}
theorem good_tab {k : Nat} (hk : k < n) : goodAt (tab n d) (tab n g) k = (decide (0 ≤ d k) && !(g k)) := by
  unfold goodAt; rw [tab_getD hk, tab_getD hk]
theorem least_tab {k : Nat} (hk : k < n) (h0 : 0 ≤ d k) (hg : g k = false) (hb : ∀ j, j < k → d j < 0 ∨ g j = true) : leastS (tab n d) (tab n g) = some k := by
  unfold leastS
  rw [tab_len]
  refine List.find?_range_eq_some.2 ⟨by rw [good_tab hk, hg]; simpa using h0, List.mem_range.2 hk, fun j hj => ?_⟩
  rw [good_tab (by omega)]
  rcases hb j hj with h | h
  · have : decide (0 ≤ d j) = false := by simpa using h
    rw [this]; rfl
  · rw [h]; simp
theorem least_tab_none (hb : ∀ j, j < n → d j < 0 ∨ g j = true) : leastS (tab n d) (tab n g) = none := by
  unfold leastS
  rw [tab_len]
  refine List.find?_range_eq_none.2 fun j hj => ?_
  rw [good_tab hj]
  rcases hb j hj with h | h
  · have : decide (0 ≤ d j) = false := by simpa using h
    rw [this]; rfl
  · rw [h]; simp

theorem all_step {D D' : List Int} {G : List Bool} {k : Nat} (f : Nat) (h : leastS D G = some k) (ho : oneS fs code D k = (none, D')) : allS fs code (f + 1) D G = allS fs code f D' (G.set k true) := by
  conv => lhs; unfold allS
  rw [h]; simp only [ho]
theorem all_err {D D' : List Int} {G : List Bool} {k : Nat} {e : Int} (f : Nat) (h : leastS D G = some k) (ho : oneS fs code D k = (some e, D')) : allS fs code (f + 1) D G = (some ((k : Int), e), D') := by
  conv => lhs; unfold allS
  rw [h]; simp only [ho]
theorem all_stop {D : List Int} {G : List Bool} (f : Nat) (h : leastS D G = none) : allS fs code f D G = (none, D) := by
  cases f with
  | zero => rfl
  | succ f => unfold allS; rw [h]

/-- An instruction that has enough and does not grow too high. -/
theorem one_tab {k : Nat} {x : SIns} (hx : code[k]? = some x) (hk : k < n) (p q : Int) (hp : popsS x.op x.n fs.length (argsOf fs x.n) = p) (hq : pushesS x.op = q) (h0 : 0 ≤ d k - p) (h1 : d k ≤ 1000) (hp0 : 0 ≤ p) (hq0 : 0 ≤ q) (h32 : d k - p + q ≤ 32) :
    oneS fs code (tab n d) k = stepsS (d k - p + q) (nextS x.op x.n k) (tab n d) := by
  unfold oneS
  have hc : code.getD k ⟨0, 0⟩ = x := by rw [List.getD_eq_getElem?_getD, hx]; rfl
  simp only [hc, tab_getD hk, hp, hq]
  rw [wrap_id (by omega) (by omega), if_neg (by omega), wrap_id (by omega) (by omega), if_neg (by omega)]
theorem one_low {k : Nat} {x : SIns} (hx : code[k]? = some x) (hk : k < n) (p : Int) (hp : popsS x.op x.n fs.length (argsOf fs x.n) = p) (h0 : d k - p < 0) (h1 : 0 ≤ d k) (hp0 : p ≤ 1000) :
    oneS fs code (tab n d) k = (some 12, tab n d) := by
  unfold oneS
  have hc : code.getD k ⟨0, 0⟩ = x := by rw [List.getD_eq_getElem?_getD, hx]; rfl
  simp only [hc, tab_getD hk, hp]
  rw [wrap_id (by omega) (by omega), if_pos (by omega)]
theorem one_high {k : Nat} {x : SIns} (hx : code[k]? = some x) (hk : k < n) (p q : Int) (hp : popsS x.op x.n fs.length (argsOf fs x.n) = p) (hq : pushesS x.op = q) (h0 : 0 ≤ d k - p) (h1 : d k ≤ 1000) (hp0 : 0 ≤ p) (hq0 : q ≤ 1000) (hq1 : 0 ≤ q) (h32 : 32 < d k - p + q) :
    oneS fs code (tab n d) k = (some 12, tab n d) := by
  unfold oneS
  have hc : code.getD k ⟨0, 0⟩ = x := by rw [List.getD_eq_getElem?_getD, hx]; rfl
  simp only [hc, tab_getD hk, hp, hq]
  rw [wrap_id (by omega) (by omega), if_neg (by omega), wrap_id (by omega) (by omega), if_pos (by omega)]

theorem step_in {l : Int} {m : Nat} (hm : m < n) : stepS (tab n d) l m = if (if d m < 0 then (tab n d).set m l else tab n d).getD m (-1) = l then (none, if d m < 0 then (tab n d).set m l else tab n d) else (some 12, if d m < 0 then (tab n d).set m l else tab n d) := by
  have hb : ¬ ¬ (0 ≤ (m : Int) ∧ (m : Int) < ((tab n d).length : Int)) := by rw [tab_len]; omega
  unfold stepS
  rw [if_neg hb, Int.toNat_natCast, tab_getD hm]
theorem step_new {l : Int} {m : Nat} (hm : m < n) (h : d m < 0) : stepS (tab n d) l m = (none, tab n fun j => if j = m then l else d j) := by
  rw [step_in hm]
  simp only [if_pos h, tab_set, tab_getD hm, if_true]
theorem step_same {l : Int} {m : Nat} (hm : m < n) (h : 0 ≤ d m) (he : d m = l) : stepS (tab n d) l m = (none, tab n d) := by
  have hn : ¬ d m < 0 := by omega
  rw [step_in hm]
  simp only [if_neg hn, tab_getD hm, if_pos he]
theorem step_other {l : Int} {m : Nat} (hm : m < n) (h : 0 ≤ d m) (he : d m ≠ l) : stepS (tab n d) l m = (some 12, tab n d) := by
  have hn : ¬ d m < 0 := by omega
  rw [step_in hm]
  simp only [if_neg hn, tab_getD hm, if_neg he]
theorem step_out {l m : Int} (D : List Int) (h : ¬ (0 ≤ m ∧ m < D.length)) : stepS D l m = (some 11, D) := by
  unfold stepS; rw [if_pos h]
end

/-- The depths where all up to k have theirs, the others what they had; what is gone over: all ahead of k. -/
def lineD (n k : Nat) (h e : Nat → Int) : List Int := tab n fun j => if j ≤ k then h j else e j
def lineG (n k : Nat) : List Bool := tab n fun j => decide (j < k)
theorem lineG_set {n k : Nat} : (lineG n k).set k true = lineG n (k + 1) := by
  unfold lineG; rw [tab_set]
  refine tab_ext fun j _ => ?_
  by_cases h : j = k
  · subst h; simp
  · rw [if_neg h]; simp; omega
theorem line_least {n k : Nat} {h e : Nat → Int} (hk : k < n) (h0 : 0 ≤ h k) : leastS (lineD n k h e) (lineG n k) = some k :=
  least_tab hk (by simpa using h0) (by simp) (fun j hj => .inr (by simpa using hj))

theorem line_step {fs : List SFunc} {code : List SIns} {n k : Nat} {h e : Nat → Int} {x : SIns} (f : Nat) (hx : code[k]? = some x) (hk : k + 1 < n) (hnext : nextS x.op x.n k = [(k : Int) + 1]) (p q : Int) (hp : popsS x.op x.n fs.length (argsOf fs x.n) = p) (hq : pushesS x.op = q)
    (h0 : 0 ≤ h k - p) (h1 : h k ≤ 1000) (hp0 : 0 ≤ p) (hq0 : 0 ≤ q) (hh : h (k + 1) = h k - p + q) (h32 : h (k + 1) ≤ 32) (he : e (k + 1) < 0 ∨ e (k + 1) = h (k + 1)) :
    allS fs code (f + 1) (lineD n k h e) (lineG n k) = allS fs code f (lineD n (k + 1) h e) (lineG n (k + 1)) := by
  have ho := one_tab (fs := fs) (n := n) (d := fun j => if j ≤ k then h j else e j) hx (by omega) p q hp hq (by simpa using h0) (by simpa using h1) hp0 hq0 (by simp; omega)
  rw [hnext] at ho
  have hl : (if k ≤ k then h k else e k) - p + q = h (k + 1) := by simp; omega
  simp only [hl] at ho
  have hs : stepsS (h (k + 1)) [(k : Int) + 1] (tab n fun j => if j ≤ k then h j else e j) = (none, lineD n (k + 1) h e) := by
    unfold stepsS
    rw [show (k : Int) + 1 = ((k + 1 : Nat) : Int) by omega]
    rcases he with he | he
    · rw [step_new hk (by rw [if_neg (by omega)]; exact he)]
      simp only [stepsS]
      refine congrArg _ (tab_ext fun j _ => ?_)
      by_cases hj : j = k + 1
      · subst hj; simp
      · by_cases hj2 : j ≤ k
        · rw [if_neg hj, if_pos hj2, if_pos (by omega)]
        · rw [if_neg hj, if_neg hj2, if_neg (by omega)]
    · rw [step_same hk (by rw [if_neg (by omega)]; omega) (by rw [if_neg (by omega)]; exact he)]
      simp only [stepsS]
      refine congrArg _ (tab_ext fun j _ => ?_)
      by_cases hj2 : j ≤ k
      · rw [if_pos hj2, if_pos (by omega)]
      · rw [if_neg hj2]
        by_cases hj : j = k + 1
        · subst hj; rw [if_pos (Nat.le_refl _)]; exact he
        · rw [if_neg (by omega)]
  rw [all_step f (line_least (by omega) (by omega)) (ho.trans hs), lineG_set]

/-- Several in a row: m instructions from k on, each pops p and pushes q and goes on to the next. -/
theorem line_run {fs : List SFunc} {code : List SIns} {n : Nat} {h e : Nat → Int} : ∀ (m k f : Nat),
    (∀ i, k ≤ i → i < k + m → ∃ (x : SIns) (p q : Int), code[i]? = some x ∧ i + 1 < n ∧ nextS x.op x.n i = [(i : Int) + 1] ∧ popsS x.op x.n fs.length (argsOf fs x.n) = p ∧ pushesS x.op = q ∧ 0 ≤ h i - p ∧ h i ≤ 1000 ∧ 0 ≤ p ∧ 0 ≤ q ∧ h (i + 1) = h i - p + q ∧ h (i + 1) ≤ 32 ∧ (e (i + 1) < 0 ∨ e (i + 1) = h (i + 1))) →
    allS fs code (f + m) (lineD n k h e) (lineG n k) = allS fs code f (lineD n (k + m) h e) (lineG n (k + m))
  | 0, _, _, _ => rfl
  | m + 1, k, f, H => by
    obtain ⟨x, p, q, a1, a2, a3, a4, a5, a6, a7, a8, a9, a10, a11, a12⟩ := H k (Nat.le_refl _) (by omega)
    rw [show f + (m + 1) = (f + m) + 1 by omega, line_step (f + m) a1 a2 a3 p q a4 a5 a6 a7 a8 a9 a10 a11 a12, line_run m (k + 1) f (fun i h1 h2 => H i (by omega) (by omega)), show k + 1 + m = k + (m + 1) by omega]

theorem walkS_line {fs : List SFunc} {code : List SIns} {n : Nat} {h e : Nat → Int} (hn : code.length = n) (h0 : h 0 = 0) (he : ∀ j, 0 < j → j < n → e j = -1) : walkS fs code = allS fs code n (lineD n 0 h e) (lineG n 0) := by
  unfold walkS
  rw [hn, tab_replicate, tab_replicate, tab_set]
  congr 1
  · refine tab_ext fun j hj => ?_
    by_cases h1 : j = 0
    · subst h1; simp [h0]
    · rw [if_neg h1, if_neg (by omega), he j (by omega) hj]
end Go.Proofs.YtgjdlloiiedpmaaLiftDoor
