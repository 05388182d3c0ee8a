/- 'asm.Named' and the reference's 'name': which texts may be a function's name. No condition but that a string's length is a number that an int holds. -/
import Derived.Test.YtgjdlloiiedpmaaLiftDoorNeed
import Derived.Test.YtgjdlloiiedpmaaLiftDoorTrim
namespace Go.Proofs.YtgjdlloiiedpmaaLiftDoor
open Go.RowKit

def letter (c : UInt8) : Bool := decide (97 ≤ c.toNat) && decide (c.toNat ≤ 122)
def letDig (c : UInt8) : Bool := letter c || (decide (48 ≤ c.toNat) && decide (c.toNat ≤ 57))
def nameOk (l : List UInt8) : Bool := decide (1 ≤ l.length) && decide (l.length ≤ 20) && (l.head?.map letter).getD false && l.all letDig

def cut36 : List UInt8 := [97, 98, 99, 100, 101, 102, 103, 104, 105, 106, 107, 108, 109, 110, 111, 112, 113, 114, 115, 116, 117, 118, 119, 120, 121, 122, 48, 49, 50, 51, 52, 53, 54, 55, 56, 57]
theorem cut36_has (c : UInt8) : cut36.contains c = letDig c := by
  obtain ⟨v⟩ := c
  have h : ∀ v : BitVec 8, cut36.contains ⟨v⟩ = letDig ⟨v⟩ := by decide +kernel
  exact h v
theorem dropWhile_nil {α} (p : α → Bool) (l : List α) : (l.dropWhile p).isEmpty = l.all p := by
  induction l with
  | nil => rfl
  | cons a l ih =>
    cases h : p a
    · simp [List.dropWhile_cons, h]
    · simpa [List.dropWhile_cons, h] using ih
theorem dropWhile_all {α} (p : α → Bool) (l : List α) : (l.dropWhile p).all p = l.all p := by
  induction l with
  | nil => rfl
  | cons a l ih =>
    cases h : p a
    · simp [List.dropWhile_cons, h]
    · simpa [List.dropWhile_cons, h] using ih
theorem trim_empty (l : List UInt8) : (Lib.trimS l cut36).isEmpty = l.all letDig := by
  have hc : (cut36.contains ·) = letDig := funext cut36_has
  unfold Lib.trimS Lib.trimLeftS Lib.trimRightS
  rw [hc, dropWhile_nil, List.all_reverse, dropWhile_all, List.all_reverse]

theorem trim_any (s : ByteArray) (w : World) (hs : s.size ≤ 9223372036854775807) :
    Calls Tryl.prog 50 #[.string s, .string ⟨#[97, 98, 99, 100, 101, 102, 103, 104, 105, 106, 107, 108, 109, 110, 111, 112, 113, 114, 115, 116, 117, 118, 119, 120, 121, 122, 48, 49, 50, 51, 52, 53, 54, 55, 56, 57]⟩] w fun e w' => ∃ r : ByteArray, e = .returned (.string r) ∧ r.toList.isEmpty = s.data.toList.all letDig ∧ Below w.heap.size w w' := by
  have hcon := Any.strings_Trim_laid Tryl.lays160 (by kernel_rfl) s ⟨#[97, 98, 99, 100, 101, 102, 103, 104, 105, 106, 107, 108, 109, 110, 111, 112, 113, 114, 115, 116, 117, 118, 119, 120, 121, 122, 48, 49, 50, 51, 52, 53, 54, 55, 56, 57]⟩ w hs (by decide) (ascii_of_all (by decide))
  refine (show Calls Tryl.prog 50 _ _ _ from hcon).mono ?_
  rintro e w' ⟨rfl, hB⟩
  refine ⟨_, rfl, ?_, hB⟩
  rw [Lib.toList_data]
  exact trim_empty _

theorem emp_of (s : ByteArray) : s.toList.isEmpty = decide (s.size = 0) := by
  rw [Lib.toList_data]
  have := Lib.size_eq s
  cases h : s.data.toList <;> simp_all
theorem head_at (s : ByteArray) (k : Nat) (h0 : k = 0) (h : k < s.size) : s.data.toList.head? = some s[k] := by
  subst h0
  have h' : 0 < s.data.toList.length := by have := Lib.size_eq s; omega
  rw [List.head?_eq_getElem?, List.getElem?_eq_getElem h']
  rfl
theorem head_of (s : ByteArray) (h : 0 < s.size) : s.data.toList.head? = some s[0] := by
  have h' : 0 < s.data.toList.length := by have := Lib.size_eq s; omega
  rw [List.head?_eq_getElem?, List.getElem?_eq_getElem h']
  rfl

set_option maxHeartbeats 1000000 in
theorem named_any (s : ByteArray) (w : World) (hs : s.size ≤ 9223372036854775807) :
    Calls Tryl.prog 39 #[.string s] w fun e w' => e = .returned (.bool (nameOk s.data.toList)) ∧ Below w.heap.size w w' := by
  have hsz := Lib.size_eq s
  by_cases h0 : s.size = 0
  · have he : s.toList.isEmpty = true := by rw [emp_of]; simp [h0]
    have hn : nameOk s.data.toList = false := by unfold nameOk; rw [decide_eq_false (by omega)]; rfl
    rw [hn]
    clear h0 hn hsz
    go_enter Tryl.func39, Tryl.ntmps39
    go_wp2
    go_ret
    exact ⟨rfl, Below.refl _ _⟩
  have he : s.toList.isEmpty = false := by rw [emp_of]; simp [h0]
  have hp : 0 < s.size := by omega
  have hh := head_of s hp
  by_cases h20 : 20 < s.size
  · have hn : nameOk s.data.toList = false := by
      unfold nameOk; rw [decide_eq_false (show ¬ s.data.toList.length ≤ 20 by omega)]; simp
    rw [hn]
    clear h0 hn hsz hh
    go_enter Tryl.func39, Tryl.ntmps39
    go_wp2
    go_ret
    exact ⟨rfl, Below.refl _ _⟩
  have h20' : s.size ≤ 20 := by omega
  by_cases hl : letter s[0] = true
  · have hn : nameOk s.data.toList = s.data.toList.all letDig := by
      unfold nameOk; rw [hh, decide_eq_true (by omega), decide_eq_true (by omega)]; simp [hl]
    have ht := fun w => trim_any s w hs
    rw [hn]
    generalize s.data.toList.all letDig = b at ht
    simp only [letter, Bool.and_eq_true, decide_eq_true_eq] at hl
    obtain ⟨hl1, hl2⟩ := hl
    clear h0 hn hsz hh h20
    go_enter Tryl.func39, Tryl.ntmps39
    go_wp2_with (go_at_call 50; refine (ht _).mono ?_; rintro e w' ⟨r, rfl, hr, hb⟩)
    go_ret
    exact ⟨rfl, hb⟩
  · have hn : nameOk s.data.toList = false := by
      unfold nameOk; rw [hh]; simp [hl]
    have hl' : s[0].toNat < 97 ∨ 122 < s[0].toNat := by
      simp only [letter, Bool.and_eq_true, decide_eq_true_eq] at hl; omega
    rw [hn]
    clear h0 hn hsz hh h20 hl
    rcases hl' with hl' | hl'
    all_goals
      go_enter Tryl.func39, Tryl.ntmps39
      go_wp2
      go_ret
      exact ⟨rfl, Below.refl _ _⟩

/-- The reference's name: the letters one by one. -/
theorem nameOk_iff (l : List UInt8) : nameOk l = (decide (1 ≤ l.length) && decide (l.length ≤ 20) && l.all letDig && (l.head?.map letter).getD false) := by
  unfold nameOk
  cases (decide (1 ≤ l.length) && decide (l.length ≤ 20)) <;> cases (l.head?.map letter).getD false <;> cases l.all letDig <;> rfl
theorem all_take_succ (l : List UInt8) (p : UInt8 → Bool) (k : Nat) (h : k < l.length) : (l.take (k + 1)).all p = ((l.take k).all p && p l[k]) := by
  rw [List.take_succ_eq_append_getElem h, List.all_append]; simp

set_option maxHeartbeats 1000000 in
theorem rname_any (s : ByteArray) (w : World) (hs : s.size ≤ 9223372036854775807) :
    Calls Tryl.prog 45 #[.string s] w fun e w' => e = .returned (.bool (nameOk s.data.toList)) ∧ w = w' := by
  have HSZ : Hid (s.data.toList.length = s.size) := (Lib.size_eq s)
  go_enter Tryl.func45, Tryl.ntmps45
  go_wp2
  go_loop [3] (fun i => ∃ k : Nat, k ≤ s.size ∧ k ≤ 21 ∧ i = .int .i64 k ∧ (s.data.toList.take k).all letDig = true ∧ (0 < k → (s.data.toList.head?.map letter).getD false = true)) (fun i => s.size - (intOf i).toNat)
  case atStart => exact ⟨0, by omega, by omega, rfl, by simp, fun h => absurd h (by omega)⟩
  case round =>
    obtain ⟨k, hk, hk2, rfl, ha, hh⟩ := hrel
    have HA := Lib.hid ha
    have HH := Lib.hid hh
    clear ha hh
    by_cases hin : k < s.size ∧ k ≤ 20
    · obtain ⟨hlt, hle⟩ := hin
      have hl : Hid (k < s.data.toList.length) := by have := HSZ.out; unfold Hid; omega
      have HS : Hid ((s.data.toList.take (k + 1)).all letDig = letDig (s[k]'hlt)) := by
        have := all_take_succ s.data.toList letDig k hl.out
        rw [HA.out, Bool.true_and] at this
        exact this
      have HF : Hid (letDig (s[k]'hlt) = false → nameOk s.data.toList = false) := fun h => by
        rw [nameOk_iff]
        have : s.data.toList.all letDig = false := by
          rw [Bool.eq_false_iff]; intro hall
          have := List.all_eq_true.1 hall (s[k]'hlt) (List.getElem_mem hl.out)
          rw [h] at this; cases this
        rw [this]; simp
      have HZ : Hid (k = 0 → letter (s[k]'hlt) = false → nameOk s.data.toList = false) := fun h0 h => by
        rw [nameOk_iff, head_at s k h0 hlt]
        show (_ && letter (s[k]'hlt)) = false
        rw [h, Bool.and_false]
      have HG : Hid (k = 0 → letter (s[k]'hlt) = true → (s.data.toList.head?.map letter).getD false = true) := fun h0 h => by
        rw [head_at s k h0 hlt]
        show letter (s[k]'hlt) = true
        exact h
      have HLT : Hid (letter (s[k]'hlt) = true ↔ 97 ≤ (s[k]'hlt).toNat ∧ (s[k]'hlt).toNat ≤ 122) := by simp [Hid, letter]
      have HDG : Hid (letDig (s[k]'hlt) = true ↔ (97 ≤ (s[k]'hlt).toNat ∧ (s[k]'hlt).toNat ≤ 122) ∨ (48 ≤ (s[k]'hlt).toNat ∧ (s[k]'hlt).toNat ≤ 57)) := by simp [Hid, letDig, letter]
      obtain ⟨c, hc⟩ : ∃ c : Nat, (s[k]'hlt).toNat = c := ⟨_, rfl⟩
      rw [hc] at HLT HDG
      rcases (show c < 48 ∨ (48 ≤ c ∧ c ≤ 57) ∨ (58 ≤ c ∧ c < 97) ∨ (97 ≤ c ∧ c ≤ 122) ∨ 122 < c by omega) with g | ⟨g, g'⟩ | ⟨g, g'⟩ | ⟨g, g'⟩ | g
      · have HN : Hid (nameOk s.data.toList = false) := HF.out (by rw [Bool.eq_false_iff, Ne, HDG.out]; omega)
        by_cases hk0 : k = 0
        · subst hk0
          go_wp2
          go_ret
          exact ⟨ret_bool HN.out.symm, rfl⟩
        · have hk1 : 0 < k := by omega
          go_wp2
          go_ret
          exact ⟨ret_bool HN.out.symm, rfl⟩
      · by_cases hk0 : k = 0
        · have HN : Hid (nameOk s.data.toList = false) := HZ.out hk0 (by rw [Bool.eq_false_iff, Ne, HLT.out]; omega)
          subst hk0
          go_wp2
          go_ret
          exact ⟨ret_bool HN.out.symm, rfl⟩
        · have HD : Hid (letDig (s[k]'hlt) = true) := HDG.out.2 (by omega)
          have hk1 : 0 < k := by omega
          have d57 : decide ((c : Int) ≤ 57) = true := by simp; omega
          go_wp2
          go_round
          case rel => exact ⟨k + 1, by omega, by omega, by go_num, by rw [HS.out, HD.out], fun _ => HH.out hk1⟩
          case measure => simp [intOf]; omega
      · have HN : Hid (nameOk s.data.toList = false) := HF.out (by rw [Bool.eq_false_iff, Ne, HDG.out]; omega)
        have d57 : decide ((c : Int) ≤ 57) = false := by simp; omega
        by_cases hk0 : k = 0
        · subst hk0
          go_wp2
          go_ret
          exact ⟨ret_bool HN.out.symm, rfl⟩
        · have hk1 : 0 < k := by omega
          go_wp2
          go_ret
          exact ⟨ret_bool HN.out.symm, rfl⟩
      · have HL : Hid (letter (s[k]'hlt) = true) := HLT.out.2 ⟨g, g'⟩
        have HD : Hid (letDig (s[k]'hlt) = true) := HDG.out.2 (by omega)
        have d122 : decide ((c : Int) ≤ 122) = true := by simp; omega
        go_wp2
        go_round
        case rel => exact ⟨k + 1, by omega, by omega, by go_num, by rw [HS.out, HD.out], fun _ => by
          rcases Nat.eq_zero_or_pos k with h0 | h0
          · exact HG.out h0 HL.out
          · exact HH.out h0⟩
        case measure => simp [intOf]; omega
      · have HN : Hid (nameOk s.data.toList = false) := HF.out (by rw [Bool.eq_false_iff, Ne, HDG.out]; omega)
        have d57 : decide ((c : Int) ≤ 57) = false := by simp; omega
        have d122 : decide ((c : Int) ≤ 122) = false := by simp; omega
        by_cases hk0 : k = 0
        · subst hk0
          go_wp2
          go_ret
          exact ⟨ret_bool HN.out.symm, rfl⟩
        · have hk1 : 0 < k := by omega
          go_wp2
          go_ret
          exact ⟨ret_bool HN.out.symm, rfl⟩
    · by_cases h0 : s.size = 0
      · have he : s.toList.isEmpty = true := by rw [emp_of]; simp [h0]
        have HN : Hid (nameOk s.data.toList = false) := by
          unfold Hid nameOk; rw [decide_eq_false (by have := HSZ.out; omega)]; rfl
        have hk0 : ¬ k < s.size := by omega
        clear hin h0
        go_wp2
        go_ret
        exact ⟨ret_bool HN.out.symm, rfl⟩
      · have he : s.toList.isEmpty = false := by rw [emp_of]; simp [h0]
        by_cases h20 : 20 < s.size
        · have HN : Hid (nameOk s.data.toList = false) := by
            unfold Hid nameOk; rw [decide_eq_false (show ¬ s.data.toList.length ≤ 20 by have := HSZ.out; omega)]; simp
          have hk0 : 20 < k := by omega
          have d20 : decide ((s.size : Int) ≤ 20) = false := by simp; omega
          have dk : decide ((k : Int) ≤ 20) = false := by simp; omega
          clear hin h0
          by_cases hks : k < s.size
          all_goals
            go_wp2
            go_ret
            exact ⟨ret_bool HN.out.symm, rfl⟩
        · have hk0 : k = s.size := by omega
          have HN : Hid (nameOk s.data.toList = true) := by
            unfold Hid; rw [nameOk_iff, HH.out (by omega)]
            have : s.data.toList.all letDig = true := by
              have := HA.out; rwa [List.take_of_length_le (by have := HSZ.out; omega)] at this
            rw [this, decide_eq_true (by have := HSZ.out; omega), decide_eq_true (by have := HSZ.out; omega)]; rfl
          have h20' : s.size ≤ 20 := by omega
          have hks : ¬ k < s.size := by omega
          have d20 : decide ((s.size : Int) ≤ 20) = true := by simp; omega
          clear hin h0 hk0 h20
          go_wp2
          go_ret
          exact ⟨ret_bool HN.out.symm, rfl⟩
end Go.Proofs.YtgjdlloiiedpmaaLiftDoor
