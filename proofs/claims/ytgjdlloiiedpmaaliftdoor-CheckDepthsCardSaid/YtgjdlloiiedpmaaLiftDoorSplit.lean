/- A statement whose order is open but for its last operations, which come one by one: the open part is walked by itself. No condition. -/
import Derived.Test.YtgjdlloiiedpmaaLiftDoorRegion
import Derived.Deep.RegionHeld3
namespace Go
/-- What is asked behind the open part. -/
def headPost (P : Program) (ops : Array Oper) (Q : Exit → Act → World → Prop) (l : List Oper) : Exit → Act → World → Prop
  | .normal, a, w => wpList P ops Q l a w
  | .panic _, _, _ => False
  | e, a, w => Q e a w
theorem headPost.normal {P : Program} {ops : Array Oper} {Q : Exit → Act → World → Prop} {l : List Oper} {a : Act} {w : World} (h : wpList P ops Q l a w) : headPost P ops Q l .normal a w := h

section
variable {P : Program} {ops ops' : Array Oper} {md : Region.Mode}

/-- Each waits only for what stands ahead of it; none is guarded. -/
def Region.tidyB (md : Region.Mode) (ops : Array Oper) : Bool :=
  (List.range ops.size).all fun j => match ops[j]? with
    | some o => o.guard.isNone && o.after.all fun e => !Region.binds md e || decide (e.on < j)
    | none => true
theorem Region.tidyB_spec (h : Region.tidyB md ops = true) {j : Nat} {o : Oper} (ho : ops[j]? = some o) : o.guard = none ∧ ∀ e ∈ o.after, Region.binds md e = true → e.on < j := by
  have hlt : j < ops.size := (Array.getElem?_eq_some_iff.1 ho).1
  have h1 := List.all_eq_true.1 h j (List.mem_range.2 hlt)
  simp only [ho, Bool.and_eq_true, Option.isNone_iff_eq_none] at h1
  refine ⟨h1.1, fun e he hb => ?_⟩
  have h2 := Array.all_eq_true_iff_forall_mem.1 h1.2 e he
  simpa [hb] using h2

/-- As 'Region.sinkB', but for those named. -/
def Region.sinkX (md : Region.Mode) (ops : Array Oper) (n : Nat) (skip : List Nat) : Bool :=
  (List.range n).all fun i => skip.contains i || (List.range (n + 1)).any fun j => decide (i < j) && Region.waitsFor md ops j i
theorem tail_waitsX {n : Nat} {skip : List Nat} {listed : Array Bool} (hs : Region.sinkX md ops n skip = true) (hc : Region.chainB md ops n = true) (hn : n < ops.size) (inv : HeadInv md ops n listed) (hk : ∀ i ∈ skip, listed.getD i true = true) :
    ∀ (d i : Nat), n - i = d → i < n → listed.getD i true = false → ∀ t, n ≤ t → t ∉ Region.ready md ops listed := by
  intro d
  induction d using Nat.strongRecOn with
  | _ d ih =>
    intro i hd hi hun t ht hr
    obtain ⟨_, ot, hot, hall⟩ := mem_ready.1 hr
    have htlt : t < ops.size := (Array.getElem?_eq_some_iff.1 hot).1
    by_cases htn : t = n
    · subst htn
      have h1 := List.all_eq_true.1 hs i (List.mem_range.2 hi)
      rw [Bool.or_eq_true] at h1
      rcases h1 with h1 | h1
      · have := hk i (by simpa using h1)
        rw [this] at hun; cases hun
      obtain ⟨j, hj, hj2⟩ := List.any_eq_true.1 h1
      simp only [Bool.and_eq_true, decide_eq_true_eq] at hj2
      obtain ⟨oj, hoj, e, he, hb, hon⟩ := Region.waitsFor_spec hj2.2
      have hjle : j ≤ t := by have := List.mem_range.1 hj; omega
      by_cases hjt : j = t
      · subst hjt
        have : oj = ot := Option.some.inj (hoj.symm.trans hot)
        subst this
        have h2 := hall e he hb
        rw [hon, getD_both hun] at h2
        cases h2
      · cases hl : listed.getD j false with
        | true =>
          have h2 := inv.closed j oj hoj hl e he hb
          rw [hon, getD_both hun] at h2
          cases h2
        | false =>
          have hjs : j < listed.size := by rw [inv.size]; omega
          exact ih (t - j) (by omega) j rfl (by omega) (getD_in hjs hl) t (Nat.le_refl _) hr
    · have h1 := List.all_eq_true.1 hc t (List.mem_range.2 htlt)
      simp only [Bool.or_eq_true, decide_eq_true_eq] at h1
      rcases h1 with h1 | h1
      · omega
      · obtain ⟨o', ho', e, he, hb, hon⟩ := Region.waitsFor_spec h1
        have : o' = ot := Option.some.inj (ho'.symm.trans hot)
        subst this
        have h2 := hall e he hb
        rw [hon, getD_both (inv.tail (t - 1) (by omega) (by omega))] at h2
        cases h2

theorem wpAny_more {Q : Exit → Act → World → Prop} : ∀ (f k : Nat) (L : Array Bool) (a : Act) (w : World), wpAny P md ops Q f L a w → wpAny P md ops Q (f + k) L a w
  | 0, 0, _, _, _, h => h
  | 0, k + 1, _, _, _, h => by rw [Nat.zero_add]; exact ⟨fun _ => h.2, by rw [h.1]; simp⟩
  | f + 1, k, L, a, w, h => by
    rw [show f + 1 + k = (f + k) + 1 by omega]
    exact ⟨h.1, fun i hi => wpOp_mono (fun a' w' h' => wpAny_more f k _ a' w' h') (h.2 i hi)⟩

theorem Oper.wp_both {o : Oper} {a : Act} {w : World} {K K' : Act → World → Prop} {Q Q' : Exit → Act → World → Prop} (h : ∀ a w, K a w → K' a w) (hq : ∀ c a w, Q (.panic c) a w → Q' (.panic c) a w) (ho : LetsOut Q → LetsOut Q')
    (hh : o.wp P a w K Q) : o.wp P a w K' Q' := by
  unfold Oper.wp at *
  generalize (execOp a.eval o).run P w = r at *
  cases r with
  | ok n w' =>
    cases n <;> simp only [Oper.upon] at hh ⊢ <;>
      first
        | exact h _ _ hh
        | exact Calls.mono hh (fun e w'' he => by cases e <;> first | exact h _ _ he | exact hq _ _ _ he | exact ho he)
        | exact Rows.mono hh (fun _ _ he => h _ _ he)
  | halt x w' => cases x <;> simp only [Oper.upon] at hh ⊢ <;> first | exact hh | exact hq _ _ _ hh

theorem all_listed {L : Array Bool} (hs : L.size = ops.size) (ht : Region.tidyB md ops = true) (hr : Region.ready md ops L = []) : ∀ i, i < ops.size → L.getD i true = true := by
  intro i
  induction i using Nat.strongRecOn with
  | _ i ih =>
    intro hi
    cases hc : L.getD i true with
    | true => rfl
    | false =>
      have ho : ops[i]? = some ops[i] := by simp [hi]
      have : i ∈ Region.ready md ops L := mem_ready.2 ⟨hc, ops[i], ho, fun e he hb => by
        have hlt := (Region.tidyB_spec ht ho).2 e he hb
        have h1 := ih e.on hlt (by omega)
        have hsz : e.on < L.size := by omega
        simp [hsz] at h1 ⊢; exact h1⟩
      rw [hr] at this; cases this

theorem wpAny_head {n : Nat} {skip : List Nat} {Q Q' : Exit → Act → World → Prop} (hn : n < ops.size) (hs : Region.sinkX md ops n skip = true) (hc : Region.chainB md ops n = true) (ht : Region.tidyB md ops = true)
    (hq : ∀ c a w, Q' (.panic c) a w → Q (.panic c) a w) (hlo : LetsOut Q' → LetsOut Q) (hops : ∀ j, ops'[j]? = if j < n then ops[j]? else none) (hsz : ops'.size = n)
    (hB : Region.seqB md ops (ops.size - n) n (Array.replicate n true ++ Array.replicate (ops.size - n) false) = true) (hend : ∀ a w, Q' .normal a w → wpList P ops Q (ops.toList.drop n) a w) :
    ∀ (f : Nat) (L' L : Array Bool) (a : Act) (w : World), L'.size = n → (∀ j, j < n → L.getD j true = L'.getD j true) → HeadInv md ops n L → (∀ i ∈ skip, L.getD i true = true) →
      wpAny P md ops' Q' f L' a w → wpAny P md ops Q (f + (ops.size - n)) L a w := by
  have ht' : Region.tidyB md ops' = true := by
    refine List.all_eq_true.2 fun j hj => ?_
    have hjn : j < n := by rw [← hsz]; exact List.mem_range.1 hj
    have h1 := List.all_eq_true.1 ht j (List.mem_range.2 (by omega))
    rw [hops j, if_pos hjn]; exact h1
  have hdone : ∀ (L' L : Array Bool) (a : Act) (w : World), L'.size = n → (∀ j, j < n → L.getD j true = L'.getD j true) → HeadInv md ops n L → Region.ready md ops' L' = [] → Q' .normal a w → wpAny P md ops Q (ops.size - n) L a w := by
    intro L' L a w h1 h2 inv hr hQ
    have hall := all_listed (by omega : L'.size = ops'.size) ht' hr
    have hL : L = Array.replicate n true ++ Array.replicate (ops.size - n) false := by
      apply Array.ext (by simp [inv.size]; omega)
      intro j hj _
      rcases Nat.lt_or_ge j n with hlt | hge
      · have h3 := h2 j hlt
        rw [hall j (by omega)] at h3
        simp [hj] at h3
        rw [Array.getElem_append_left (by simpa using hlt)]
        simpa using h3
      · have h3 := inv.tail j hge (by rw [← inv.size]; exact hj)
        simp [hj] at h3
        rw [Array.getElem_append_right (by simpa using hge)]
        simpa using h3
    subst hL
    have hl : (ops.toList.drop n).length = ops.size - n := by simp
    have := wpAny_of_seq (P := P) (md := md) (ops := ops) (Q' := Q) (ops.toList.drop n) n _ a w (fun j => by simp [List.getElem?_drop]) (by rw [hl]; exact hB) (hend a w hQ)
    rwa [hl] at this
  intro f
  induction f with
  | zero =>
    intro L' L a w h1 h2 inv hsk h
    rw [Nat.zero_add]
    exact hdone L' L a w h1 h2 inv h.1 h.2
  | succ f ih =>
    intro L' L a w h1 h2 inv hsk h
    cases hr : Region.ready md ops' L' with
    | nil => rw [Nat.add_comm]; exact wpAny_more _ _ _ _ _ (hdone L' L a w h1 h2 inv hr (h.1 hr))
    | cons i0 r0 =>
      have hi0 : i0 ∈ Region.ready md ops' L' := by rw [hr]; simp
      have key : ∀ i, i < n → (i ∈ Region.ready md ops L ↔ i ∈ Region.ready md ops' L') := by
        intro i hi
        rw [mem_ready, mem_ready, h2 i hi, hops i, if_pos hi]
        refine and_congr_right fun _ => exists_congr fun o => and_congr_right fun ho => ?_
        refine forall_congr' fun e => forall_congr' fun he => forall_congr' fun hb => ?_
        have hlt := (Region.tidyB_spec ht ho).2 e he hb
        have h3 := h2 e.on (by omega)
        have a1 : e.on < L.size := by rw [inv.size]; omega
        have a2 : e.on < L'.size := by omega
        simp [a1, a2] at h3 ⊢
        rw [h3]
      have hi0n : i0 < n := by
        obtain ⟨_, o, ho, _⟩ := mem_ready.1 hi0
        rw [hops i0] at ho
        split at ho
        · assumption
        · cases ho
      rw [show f + 1 + (ops.size - n) = (f + (ops.size - n)) + 1 by omega]
      have hmem := (key i0 hi0n).2 hi0
      refine ⟨fun h0 => (by rw [h0] at hmem; cases hmem), fun i hi => ?_⟩
      have hin : i < n := by
        rcases Nat.lt_or_ge i n with hlt | hge
        · exact hlt
        · exact absurd hi (tail_waitsX hs hc hn inv hsk _ i0 rfl hi0n (mem_ready.1 hmem).1 i hge)
      have hi' := (key i hin).1 hi
      have hw := h.2 i hi'
      have hoi : ops'[i]? = ops[i]? := by rw [hops i, if_pos hin]
      have hK : ∀ a' w', wpAny P md ops' Q' f (L'.setIfInBounds i true) a' w' → wpAny P md ops Q (f + (ops.size - n)) (L.setIfInBounds i true) a' w' := fun a' w' h' => by
        refine ih _ _ a' w' (by simpa using h1) (fun j hj => ?_) (inv.set hi hin) (fun k hk => ?_) h'
        rotate_left
        · by_cases hik : i = k
          · subst hik
            have a1 : i < L.size := by rw [inv.size]; omega
            simp [a1]
          · rw [getD_set_ne true hik]; exact hsk k hk
        by_cases hij : i = j
        · subst hij
          have a1 : i < L.size := by rw [inv.size]; omega
          have a2 : i < L'.size := by omega
          simp [a1, a2]
        · rw [getD_set_ne true hij, getD_set_ne true hij]; exact h2 j hj
      unfold wpOp at hw ⊢
      rw [hoi] at hw
      cases hoo : ops[i]? with
      | none => rw [hoo] at hw; exact hK _ _ hw
      | some o =>
        rw [hoo] at hw
        have hg := (Region.tidyB_spec ht hoo).1
        have hwa : ∀ y, Region.wanted o y = true := fun y => by simp [Region.wanted, hg]
        simp only [hwa, if_true] at hw ⊢
        exact hw.imp (Oper.wp_both hK hq hlo) (fun hx => ⟨hx.1, hlo hx.2⟩)

/-- **The open part by itself.** n: how many operations it has. -/
theorem wp_region_head {id : Nat} {Q : Exit → Act → World → Prop} {S : World → Prop} {a : Act} {w : World} {l : List Oper} (n : Nat) (hm : P.follows .mixedOrders = true)
    (hB : (decide (n < l.toArray.size) && Region.sinkX .any l.toArray n [] && Region.chainB .any l.toArray n && Region.tidyB .any l.toArray && Region.seqB .any l.toArray (l.toArray.size - n) n (Array.replicate n true ++ Array.replicate (l.toArray.size - n) false)) = true)
    (hS : S w.drew) (h : S w.drew → wpAnyH P .any (l.take n).toArray (headPost P l.toArray Q (l.drop n)) S n (Array.replicate n false) a w.drew) : (Code.region id l.toArray true).wp P Q a w := by
  simp only [Bool.and_eq_true, decide_eq_true_eq] at hB
  obtain ⟨⟨⟨⟨hn, hs⟩, hc⟩, ht⟩, hq⟩ := hB
  have hn' : n < l.length := by simpa using hn
  refine wp_region_any hm ?_
  have := wpAny_head (P := P) (ops := l.toArray) (ops' := (l.take n).toArray) (Q := Q) (Q' := headPost P l.toArray Q (l.drop n)) hn hs hc ht (fun _ _ _ h => h.elim) (fun h => h) (fun j => by simp [List.getElem?_take]) (by simp; omega) hq (fun a w h => h)
    n (Array.replicate n false) (Array.replicate l.toArray.size false) a w.drew (by simp) (fun j hj => by
      have h1 : j < l.toArray.size := by omega
      rw [Array.getD_eq_getD_getElem?, Array.getD_eq_getD_getElem?, Array.getElem?_replicate, Array.getElem?_replicate, if_pos hj, if_pos h1])
    ⟨by simp, fun j oj _ hl => (by rw [getD_replicate_false] at hl; cases hl), fun t _ ht => getD_in (by simpa using ht) (getD_replicate_false _ _)⟩ (fun i hi => by cases hi) (wpAny_of_held _ _ _ _ (h hS))
  rw [show n + (l.toArray.size - n) = l.toArray.size by omega] at this
  exact this

/-- The same, where the move number i, of which only the tail has need, is free of all: it is taken first. -/
theorem wp_region_head1 {id : Nat} {Q : Exit → Act → World → Prop} {S : World → Prop} {a : Act} {w : World} {l : List Oper} (n m i : Nat) (oi : Oper) (v : Value) (hm : P.follows .mixedOrders = true)
    (hB : (decide (n < l.toArray.size) && decide (i < n) && Region.sinkX .any l.toArray n [i] && Region.chainB .any l.toArray n && Region.tidyB .any l.toArray && Region.seqB .any l.toArray (l.toArray.size - n) n (Array.replicate n true ++ Array.replicate (l.toArray.size - n) false)
      && Region.noSelect l.toArray && Region.free .any l.toArray (Array.replicate l.toArray.size false) i && (Region.ready .any l.toArray (Array.replicate l.toArray.size false)).contains i) = true)
    (hnm : n = m + 1) (hi : l.toArray[i]? = some oi) (hy : Yields P l.toArray oi v a)
    (hS : S w.drew) (h : S w.drew → wpAnyH P .any (l.take n).toArray (headPost P l.toArray (NoPanic Q) (l.drop n)) S m ((Array.replicate n false).setIfInBounds i true) (a.put oi.dst v) w.drew) : (Code.region id l.toArray true).wp P Q a w := by
  refine wp_region_noPanic ?_
  simp only [Bool.and_eq_true, decide_eq_true_eq] at hB
  obtain ⟨⟨⟨⟨⟨⟨⟨⟨hn, hin⟩, hs⟩, hc⟩, ht⟩, hq⟩, hsel⟩, hfr⟩, hrd⟩ := hB
  have hn' : n < l.length := by simpa using hn
  refine wp_region_any hm ?_
  have := wpAny_head (P := P) (ops := l.toArray) (ops' := (l.take n).toArray) (Q := NoPanic Q) (Q' := headPost P l.toArray (NoPanic Q) (l.drop n)) hn hs hc ht (fun _ _ _ h => h.elim) (fun h => h) (fun j => by simp [List.getElem?_take]) (by simp; omega) hq (fun a w h => h)
    m ((Array.replicate n false).setIfInBounds i true) ((Array.replicate l.toArray.size false).setIfInBounds i true) (a.put oi.dst v) w.drew (by simp) (fun j hj => by
      have h1 : j < l.toArray.size := by omega
      by_cases hij : i = j
      · subst hij
        have h1' : i < l.length := by simpa using h1
        simp [hj, h1']
      · rw [getD_set_ne true hij, getD_set_ne true hij, Array.getD_eq_getD_getElem?, Array.getD_eq_getD_getElem?, Array.getElem?_replicate, Array.getElem?_replicate, if_pos hj, if_pos h1])
    ((⟨by simp, fun j oj _ hl => (by rw [getD_replicate_false] at hl; cases hl), fun t _ ht => getD_in (by simpa using ht) (getD_replicate_false _ _)⟩ : HeadInv .any l.toArray n _).set (by simpa using hrd) hin)
    (fun k hk => by
      have hk : k = i := by simpa using hk
      have h1 : i < l.length := by omega
      subst hk; simp [h1]) (wpAny_of_held _ _ _ _ (h hS))
  have h2 := wpAny_take hi hsel hfr hrd (fun _ _ _ h => h) hy this
  rw [show m + (l.toArray.size - n) + 1 = l.toArray.size by omega] at h2
  exact h2
end

section
variable {P : Program} {md : Region.Mode} {l : List Oper} {Q : Exit → Act → World → Prop} {S : World → Prop}
theorem take_l (i : Nat) {oi : Oper} (v : Value) {fuel : Nat} {listed : Array Bool} {a : Act} {w : World} (hi : (l.drop i).head? = some oi)
    (hs : Region.noSelect l.toArray = true) (hf : Region.free md l.toArray listed i = true) (hr : (Region.ready md l.toArray listed).contains i = true)
    (hQ : ∀ c a w, Q (.panic c) (a.put oi.dst v) w → Q (.panic c) a w) (hw : Region.wanted oi (yielded l.toArray a.tmps) = true) (hS : S w) (hy : ∀ w, S w → (execOp a.eval oi).run P w = .ok (.value v) w)
    (h : wpAnyH P md l.toArray Q S fuel (listed.setIfInBounds i true) (a.put oi.dst v) w) : wpAnyH P md l.toArray Q S (fuel + 1) listed a w :=
  wpAnyH_take (by simpa using hi) hs hf hr hQ (Or.inl ⟨hw, hy⟩) hS h
theorem ready_l {fuel : Nat} {listed : Array Bool} {a : Act} {w : World} {i : Nat} {o : Oper} {rs : List Nat} (ho : (l.drop i).head? = some o)
    (h : ∀ K' : Act → World → Prop, Shut (∀ a w, S w → (S w → wpAnyH P md l.toArray Q S fuel (listed.setIfInBounds i true) a w) → K' a w) → if Region.wanted o (yielded l.toArray a.tmps) = true then Oper.wp P o a w K' Q else K' (a.put o.dst undef) w)
    (hs : AllReadyH P md l.toArray Q S fuel listed a w rs) : AllReadyH P md l.toArray Q S fuel listed a w (i :: rs) :=
  AllReadyH.cons (by simpa using ho) h hs
end
end Go
