/- Plain: the reference's depths are the program's. No program in sight. -/
import Derived.Test.YtgjdlloiiedpmaaLiftDoorRdeps
import Derived.Test.YtgjdlloiiedpmaaLiftDoorLine
namespace Go.Proofs.YtgjdlloiiedpmaaLiftDoor
open Go.RowKit

theorem step_eq {D : List Int} {l m : Int} (hm : 0 ≤ m) : rstepS D l m = stepS D l m := by
  by_cases hin : m < (D.length : Int)
  · have hlt : m.toNat < D.length := by omega
    obtain ⟨d, hd⟩ : ∃ d, D[m.toNat]? = some d := ⟨_, List.getElem?_eq_getElem hlt⟩
    have e : D.getD m.toNat (-1) = d := by rw [List.getD_eq_getElem?_getD, hd]; rfl
    have e1 : rstepS D l m = if 0 ≤ d ∧ d ≠ l then (some 12, D) else (none, D.set m.toNat l) := by
      unfold rstepS
      rw [if_neg (by omega), e]
    have e2 : stepS D l m = if (if d < 0 then D.set m.toNat l else D).getD m.toNat (-1) = l then (none, if d < 0 then D.set m.toNat l else D) else (some 12, if d < 0 then D.set m.toNat l else D) := by
      unfold stepS
      rw [if_neg (by omega), e]
    rw [e1, e2]
    by_cases hneg : d < 0
    · rw [if_neg (by omega), if_pos hneg, if_pos (by rw [List.getD_eq_getElem?_getD, List.getElem?_set_self hlt]; rfl)]
    · rw [if_neg hneg, e]
      by_cases heq : d = l
      · rw [if_neg (fun h => h.2 heq), if_pos heq]
        have : D.set m.toNat l = D := by
          apply List.ext_getElem?
          intro i
          rw [List.getElem?_set]
          by_cases hi : m.toNat = i
          · subst hi; rw [if_pos rfl, if_pos hlt, hd, heq]
          · rw [if_neg hi]
        rw [this]
      · rw [if_pos ⟨by omega, heq⟩, if_neg heq]
  · unfold rstepS stepS
    rw [if_pos (by omega), if_pos (fun h => hin h.2)]
theorem steps_eq {l : Int} : ∀ {ns : List Int} {D : List Int}, (∀ m ∈ ns, 0 ≤ m) → rstepsS l ns D = stepsS l ns D
  | [], _, _ => rfl
  | n :: r, D, h => by
    unfold rstepsS stepsS
    rw [step_eq (h n (by simp))]
    rcases stepS D l n with ⟨_ | e, D'⟩
    · exact steps_eq (fun m hm => h m (List.mem_cons_of_mem _ hm))
    · rfl
/-- Depths are -1 to 32. -/
def InvD (D : List Int) : Prop := ∀ x ∈ D, -1 ≤ x ∧ x ≤ 32
theorem InvD.at {D : List Int} (h : InvD D) (k : Nat) : -1 ≤ D.getD k (-1) ∧ D.getD k (-1) ≤ 32 := by
  rw [List.getD_eq_getElem?_getD]
  cases hk : D[k]? with
  | none => simp
  | some d => exact h d (List.mem_of_getElem? hk)
theorem InvD.set {D : List Int} (h : InvD D) (k : Nat) {l : Int} (h0 : 0 ≤ l) (h1 : l ≤ 32) : InvD (D.set k l) := fun x hx => by
  rcases List.mem_or_eq_of_mem_set hx with g | g
  · exact h x g
  · omega
theorem step_inv {D D' : List Int} {l m : Int} {r : Option Int} (h : InvD D) (h0 : 0 ≤ l) (h1 : l ≤ 32) (hs : stepS D l m = (r, D')) : InvD D' := by
  unfold stepS at hs
  split at hs
  · cases hs; exact h
  · simp only at hs
    have key : InvD (if D.getD m.toNat (-1) < 0 then D.set m.toNat l else D) := by
      split
      · exact h.set _ h0 h1
      · exact h
    generalize (if D.getD m.toNat (-1) < 0 then D.set m.toNat l else D) = D2 at hs key
    split at hs <;> (cases hs; exact key)
theorem steps_inv {l : Int} (h0 : 0 ≤ l) (h1 : l ≤ 32) : ∀ {ns : List Int} {D D' : List Int} {r : Option Int}, InvD D → stepsS l ns D = (r, D') → InvD D'
  | [], _, _, _, h, hs => by cases hs; exact h
  | n :: t, D, D', r, h, hs => by
    unfold stepsS at hs
    split at hs
    · rename_i e D2 he
      cases hs
      exact step_inv h h0 h1 he
    · rename_i D2 he
      exact steps_inv h0 h1 (step_inv h h0 h1 he) hs
def AllArgs (fs : List SFunc) : Prop := ∀ F ∈ fs, 0 ≤ F.args ∧ F.args ≤ 8
theorem pops_small {fs : List SFunc} (ha : AllArgs fs) (op n : Int) : 0 ≤ popsS op n fs.length (argsOf fs n) ∧ popsS op n fs.length (argsOf fs n) ≤ 8 := by
  have hA : 0 ≤ argsOf fs n ∧ argsOf fs n ≤ 8 := by
    unfold argsOf
    cases hf : fs[n.toNat]? with
    | none => simp
    | some F => exact ha F (List.mem_of_getElem? hf)
  unfold popsS
  split
  · omega
  · split
    · omega
    · split
      · exact hA
      · omega
theorem pushes_small (op : Int) : 0 ≤ pushesS op ∧ pushesS op ≤ 2 := by
  unfold pushesS
  split
  · omega
  · split <;> omega
theorem one_eq {fs : List SFunc} {code : List SIns} (ha : AllArgs fs) (hn : ∀ x ∈ code, ∀ (k : Nat), ∀ m ∈ nextS x.op x.n (k : Int), 0 ≤ m) {D : List Int} (hD : InvD D) (k : Nat) :
    roneS fs code D k = oneS fs code D k ∧ ∀ {r : Option Int} {D' : List Int}, oneS fs code D k = (r, D') → InvD D' := by
  unfold roneS oneS
  simp only
  obtain ⟨x, hx⟩ : ∃ x, code.getD k ⟨0, 0⟩ = x := ⟨_, rfl⟩
  rw [hx]
  have hp := pops_small ha x.op x.n
  have hu := pushes_small x.op
  have hd := hD.at k
  generalize popsS x.op x.n fs.length (argsOf fs x.n) = p at hp ⊢
  generalize D.getD k (-1) = d at hd ⊢
  generalize pushesS x.op = u at hu ⊢
  have w1 : wrap64 (d - p) = d - p := wrap_id (by omega) (by omega)
  have w2 : wrap64 (d - p + u) = d - p + u := wrap_id (by omega) (by omega)
  rw [w1, w2]
  have hnx : ∀ m ∈ nextS x.op x.n (k : Int), 0 ≤ m := by
    rw [List.getD_eq_getElem?_getD] at hx
    cases hc : code[k]? with
    | none =>
      rw [hc] at hx
      have : x = ⟨0, 0⟩ := hx.symm
      subst this
      intro m hm
      simp [nextS] at hm
    | some y =>
      rw [hc] at hx
      have : y = x := hx
      subst this
      exact hn y (List.mem_of_getElem? hc) k
  by_cases h1 : d < p
  · rw [if_pos (.inl h1), if_pos (by omega)]
    exact ⟨rfl, fun h => by cases h; exact hD⟩
  · by_cases h2 : 32 < d - p + u
    · rw [if_pos (.inr h2), if_neg (by omega), if_pos h2]
      exact ⟨rfl, fun h => by cases h; exact hD⟩
    · rw [if_neg (by omega), if_neg (by omega), if_neg h2]
      exact ⟨steps_eq hnx, fun h => steps_inv (by omega) (by omega) hD h⟩
theorem all_eq {fs : List SFunc} {code : List SIns} (ha : AllArgs fs) (hn : ∀ x ∈ code, ∀ (k : Nat), ∀ m ∈ nextS x.op x.n (k : Int), 0 ≤ m) : ∀ (f : Nat) {D : List Int} {G : List Bool}, InvD D → rallS fs code f D G = allS fs code f D G
  | 0, _, _, _ => rfl
  | f + 1, D, G, hD => by
    unfold rallS allS
    cases hk : leastS D G with
    | none => rfl
    | some k =>
      obtain ⟨h1, h2⟩ := one_eq ha hn hD k
      simp only
      rw [h1]
      obtain ⟨r, D', ho⟩ : ∃ r D', oneS fs code D k = (r, D') := ⟨_, _, rfl⟩
      rw [ho]
      cases r with
      | some e => rfl
      | none => exact all_eq ha hn f (h2 ho)
theorem walk_eq {fs : List SFunc} {code : List SIns} (ha : AllArgs fs) {L : Nat} {lo : Int} {C : Nat} (hi : inssS L lo C 0 code = none) : rwalkS fs code = walkS fs code := by
  unfold rwalkS walkS
  refine all_eq ha (fun x hx k => next_pos (inss_all hi x hx) k) _ ?_
  intro x hx
  rcases List.mem_or_eq_of_mem_set hx with g | g
  · have := List.eq_of_mem_replicate g
    omega
  · omega
theorem fun_eq {fs : List SFunc} (ha : AllArgs fs) (k : Nat) (F : SFunc) : rfunS fs k F = functionS fs k F := by
  have key : (match inssS fs.length F.locals F.code.length 0 F.code with | some r => some r | none => (rwalkS fs F.code).1) = (match inssS fs.length F.locals F.code.length 0 F.code with | some r => some r | none => (walkS fs F.code).1) := by
    cases hi : inssS fs.length F.locals F.code.length 0 F.code with
    | some r => rfl
    | none => simp only; rw [walk_eq ha hi]
  unfold rfunS functionS
  by_cases h1 : namedS fs k = false
  · rw [if_pos h1, if_pos h1]
  rw [if_neg h1, if_neg h1]
  by_cases h2 : ¬ (0 ≤ F.args ∧ F.args ≤ 8)
  · rw [if_pos h2, if_pos h2]
  rw [if_neg h2, if_neg h2]
  by_cases h3 : ¬ (F.args ≤ F.locals ∧ F.locals ≤ 16)
  · rw [if_pos h3, if_pos h3]
  rw [if_neg h3, if_neg h3]
  by_cases h4 : ¬ (0 < F.code.length ∧ F.code.length ≤ 256)
  · rw [if_pos h4, if_pos h4]
  rw [if_neg h4, if_neg h4]
  exact key
theorem funcs_eq {fs : List SFunc} (ha : AllArgs fs) : ∀ (l : List SFunc) (k : Nat), rfuncsS fs k l = funcsS fs k l
  | [], _ => rfl
  | F :: r, k => by
    unfold rfuncsS funcsS
    rw [fun_eq ha, funcs_eq ha r]
    rfl
theorem check_eq {J : SJob} (ha : AllArgs J.funcs) : rcheckS J = checkS J := by
  unfold rcheckS checkS
  rw [funcs_eq ha]
  rfl
theorem args_of_check {J : SJob} (h : (checkR J).2.2 = 0) : AllArgs J.funcs := by
  have hc := check_none h
  unfold checkS at hc
  split at hc
  · cases hc
  · intro F hF
    obtain ⟨k, hk⟩ := List.getElem?_of_mem hF
    have hf := funcsS_none hc hk
    unfold functionS at hf
    split at hf
    · cases hf
    · split at hf
      · cases hf
      · rename_i hA
        omega
theorem args_of_rcheck {J : SJob} (h : rerr J = 0) : AllArgs J.funcs := by
  intro F hF
  obtain ⟨k, hk⟩ := List.getElem?_of_mem hF
  exact (rfun_none (rfuncs_at (rcheck_none h).2 hk)).2.1
theorem err_eq (J : SJob) : rerr J = 0 ↔ (checkR J).2.2 = 0 := by
  constructor
  · intro h
    have := check_eq (args_of_rcheck h)
    unfold checkR
    rw [← this]; exact h
  · intro h
    have := check_eq (args_of_check h)
    unfold rerr
    rw [this]; exact h
theorem depths_eq (J : SJob) (f : Int) : rdepthsS J f = depthsS J f := by
  unfold rdepthsS depthsS
  by_cases h : (checkR J).2.2 = 0
  · have hr := (err_eq J).2 h
    by_cases hf : f < 0 ∨ (J.funcs.length : Int) ≤ f
    · rw [if_pos (.inr hf), if_pos (.inr hf)]
    · rw [if_neg (by omega), if_neg (by omega)]
      cases hF : J.funcs[f.toNat]? with
      | none => rfl
      | some F =>
        obtain ⟨-, -, -, -, -, hi, hw⟩ := rfun_none (rfuncs_at (rcheck_none hr).2 hF)
        have he := walk_eq (args_of_check h) hi
        simp only
        unfold rdOut
        rw [hw]
        simp only
        rw [he]
  · rw [if_pos (.inl (fun hr => h ((err_eq J).1 hr))), if_pos (.inl h)]
theorem depths_short {J : SJob} {f : Int} : ((depthsS J f).getD []).length ≤ 256 := by
  unfold depthsS
  by_cases h : (checkR J).2.2 ≠ 0 ∨ f < 0 ∨ (J.funcs.length : Int) ≤ f
  · rw [if_pos h]; simp
  · rw [if_neg h]
    cases hF : J.funcs[f.toNat]? with
    | none => simp
    | some F =>
      have h0 : (checkR J).2.2 = 0 := by omega
      obtain ⟨-, hc, -⟩ := check_ok h0 hF
      show ((walkS J.funcs F.code).2).length ≤ 256
      have hl : ∀ (l : Int) (ns : List Int) (D D' : List Int) (r : Option Int), stepsS l ns D = (r, D') → D'.length = D.length := by
        intro l ns
        induction ns with
        | nil => intro D D' r hs; cases hs; rfl
        | cons n t ih =>
          intro D D' r hs
          have hst : ∀ (D D' : List Int) (r : Option Int), stepS D l n = (r, D') → D'.length = D.length := by
            intro D D' r hs
            unfold stepS at hs
            split at hs
            · cases hs; rfl
            · simp only at hs
              have key : (if D.getD n.toNat (-1) < 0 then D.set n.toNat l else D).length = D.length := by split <;> simp
              generalize (if D.getD n.toNat (-1) < 0 then D.set n.toNat l else D) = D2 at hs key
              split at hs <;> (cases hs; exact key)
          unfold stepsS at hs
          split at hs
          · rename_i e D2 he
            cases hs
            exact hst _ _ _ he
          · rename_i D2 he
            rw [ih _ _ _ hs, hst _ _ _ he]
      have hall : ∀ (f : Nat) (D : List Int) (G : List Bool), (allS J.funcs F.code f D G).2.length = D.length := by
        intro f
        induction f with
        | zero => intro D G; rfl
        | succ f ih =>
          intro D G
          unfold allS
          split
          · rfl
          · rename_i k hk
            have hone : ∀ (r : Option Int) (D' : List Int), oneS J.funcs F.code D k = (r, D') → D'.length = D.length := by
              intro r D' ho
              unfold oneS at ho
              simp only at ho
              split at ho
              · cases ho; rfl
              · split at ho
                · cases ho; rfl
                · exact hl _ _ _ _ _ ho
            split
            · rename_i e D' ho
              exact hone _ _ ho
            · rename_i D' ho
              rw [ih, hone _ _ ho]
      unfold walkS
      rw [hall]; simpa using hc
end Go.Proofs.YtgjdlloiiedpmaaLiftDoor
