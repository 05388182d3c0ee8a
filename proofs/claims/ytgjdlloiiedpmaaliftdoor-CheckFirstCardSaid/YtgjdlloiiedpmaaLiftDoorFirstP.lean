/- 'CheckFirst': the plain law: of wrong things in several functions the first one is told. -/
import Derived.Test.YtgjdlloiiedpmaaLiftDoorOk
import Derived.Test.YtgjdlloiiedpmaaLiftDoorOneJ
namespace Go.Proofs.YtgjdlloiiedpmaaLiftDoor
open Go.RowKit

def abc : ByteArray := ⟨#[97, 98, 99, 100, 101, 102, 103, 104, 105, 106, 107, 108, 109, 110, 111, 112, 113, 114, 115, 116, 117, 118, 119, 120, 121, 122]⟩
def letName (i : Nat) : ByteArray := abc.extract i (i + 1)
def opW (b : Bool) : Int := if b then 2 else 18
def fW (l : List Bool) (i : Nat) : SFunc := ⟨letName i, 0, 0, [⟨1, 0⟩, ⟨opW (l.getD i false), 0⟩]⟩
def fsW (l : List Bool) (k : Nat) : List SFunc := (List.range k).map (fW l)
theorem fsW_len (l : List Bool) (k : Nat) : (fsW l k).length = k := by simp [fsW]
theorem fsW_succ (l : List Bool) (k : Nat) : fsW l (k + 1) = fsW l k ++ [fW l k] := by simp [fsW, List.range_succ]
theorem fsW_get {l : List Bool} {k i : Nat} (h : i < k) : (fsW l k)[i]? = some (fW l i) := by simp [fsW, h]
theorem fsW_only {l : List Bool} {k i : Nat} {F : SFunc} (h : (fsW l k)[i]? = some F) : i < k ∧ F = fW l i := by
  have hi : i < k := by
    rcases Nat.lt_or_ge i k with g | g
    · exact g
    · rw [List.getElem?_eq_none (by rw [fsW_len]; exact g)] at h; cases h
  rw [fsW_get hi] at h
  cases h
  exact ⟨hi, rfl⟩
theorem let_ok : ∀ i : Fin 26, nameOk (letName i.val).data.toList = true := by decide +kernel
theorem let_ne : ∀ i j : Fin 26, i ≠ j → ((letName i.val).data.toList == (letName j.val).data.toList) = false := by decide +kernel
theorem let_size : ∀ i : Fin 26, (letName i.val).size = 1 := by decide +kernel
theorem named_W {l : List Bool} {m k : Nat} (hk : k < m) (hm : m ≤ 26) : namedS (fsW l m) k = true := by
  unfold namedS
  have hn : nameOf (fsW l m) k = letName k := by unfold nameOf; rw [fsW_get hk]; rfl
  rw [hn, let_ok ⟨k, by omega⟩, Bool.and_true, List.all_eq_true]
  intro f hf
  obtain ⟨i, hi⟩ := List.getElem?_of_mem hf
  have hik : i < k := by
    rcases Nat.lt_or_ge i k with g | g
    · exact g
    · rw [List.getElem?_take, if_neg (by omega)] at hi; cases hi
  rw [List.getElem?_take, if_pos hik, fsW_get (by omega)] at hi
  cases hi
  have := let_ne ⟨i, by omega⟩ ⟨k, by omega⟩ (by simp; omega)
  show (!((letName i).toList == (letName k).toList)) = true
  rw [Lib.toList_data, Lib.toList_data]
  simp only at this
  rw [this]; rfl
theorem walk_good (fs : List SFunc) : walkS fs [⟨1, 0⟩, ⟨18, 0⟩] = (none, [0, 1]) := by kernel_rfl
theorem walk_bad (fs : List SFunc) : (walkS fs [⟨1, 0⟩, ⟨2, 0⟩]).1 = some (1, 11) := by kernel_rfl
theorem inss_W (L : Nat) (b : Bool) : inssS L 0 2 0 [⟨1, 0⟩, ⟨opW b, 0⟩] = none := by
  refine inss_none _ _ fun x hx => ?_
  simp only [List.mem_cons, List.mem_nil_iff, or_false] at hx
  rcases hx with rfl | rfl
  · exact push_ins _ _ _ _
  · cases b
    · exact ret_ins _ _ _
    · simp [insS, isOp, opW]
theorem function_W {l : List Bool} {m k : Nat} (hk : k < m) (hm : m ≤ 26) : functionS (fsW l m) k (fW l k) = if l.getD k false then some (1, 11) else none := by
  unfold functionS
  rw [if_neg (by rw [named_W hk hm]; simp), if_neg (by simp [fW]), if_neg (by simp [fW]), if_neg (by simp [fW])]
  have e : inssS (fsW l m).length (fW l k).locals (fW l k).code.length 0 (fW l k).code = none := inss_W _ _
  rw [e]
  show (walkS (fsW l m) [⟨1, 0⟩, ⟨opW (l.getD k false), 0⟩]).1 = _
  cases h : l.getD k false with
  | false => show (walkS (fsW l m) [⟨1, 0⟩, ⟨18, 0⟩]).1 = _; rw [walk_good]; rfl
  | true => show (walkS (fsW l m) [⟨1, 0⟩, ⟨2, 0⟩]).1 = _; rw [walk_bad]; rfl
theorem funcs_hit {fs : List SFunc} {i e : Int} : ∀ (l : List SFunc) (k j : Nat) (F : SFunc), l[j]? = some F → functionS fs (k + j) F = some (i, e) → (∀ x G, x < j → l[x]? = some G → functionS fs (k + x) G = none) → funcsS fs k l = some (((k + j : Nat) : Int), i, e)
  | [], _, _, _, h, _, _ => by simp at h
  | G :: r, k, 0, F, h, hf, _ => by
    have : G = F := by simpa using h
    subst this
    unfold funcsS
    rw [show functionS fs k G = some (i, e) from hf]; simp
  | G :: r, k, j + 1, F, h, hf, hb => by
    unfold funcsS
    rw [show functionS fs k G = none from hb 0 G (by omega) rfl]
    simp only
    rw [funcs_hit r (k + 1) j F (by simpa using h) (by rw [show k + 1 + j = k + (j + 1) by omega]; exact hf) (fun x G' hx hG => by
      rw [show k + 1 + x = k + (x + 1) by omega]; exact hb (x + 1) G' (by omega) (by simpa using hG)), show k + 1 + j = k + (j + 1) by omega]
theorem funcs_miss {fs : List SFunc} : ∀ (l : List SFunc) (k : Nat), (∀ x G, l[x]? = some G → functionS fs (k + x) G = none) → funcsS fs k l = none
  | [], _, _ => rfl
  | G :: r, k, hb => by
    unfold funcsS
    rw [show functionS fs k G = none from hb 0 G rfl]
    exact funcs_miss r (k + 1) fun x G' hG => by rw [show k + 1 + x = k + (x + 1) by omega]; exact hb (x + 1) G' (by simpa using hG)
def jobW (l : List Bool) : SJob := ⟨fsW l l.length, 0, [], 10, 10⟩
theorem head_W {l : List Bool} (h1 : 1 ≤ l.length) (h2 : l.length ≤ 26) : headS (jobW l) = none := by
  have e : (jobW l).funcs[(jobW l).main.toNat]? = some (fW l 0) := fsW_get (by show (0 : Int).toNat < _; simp; omega)
  have el : (jobW l).funcs.length = l.length := fsW_len _ _
  unfold headS
  rw [if_neg (by omega), if_neg (by omega), if_neg (by simp [jobW]), if_neg (by rw [el]; show ¬¬((0 : Int) ≤ 0 ∧ (0 : Int) < _); omega), if_neg (by rw [e]; simp [jobW, fW])]
/-- The first wrong one; -1: none. -/
def wantW (l : List Bool) : Nat → Int
  | 0 => -1
  | k + 1 => if 0 ≤ wantW l k then wantW l k else if l.getD k false then k else -1
theorem want_spec (l : List Bool) : ∀ k, (wantW l k = -1 ∧ ∀ i, i < k → l.getD i false = false) ∨ ∃ j : Nat, j < k ∧ wantW l k = j ∧ l.getD j false = true ∧ ∀ i, i < j → l.getD i false = false
  | 0 => .inl ⟨rfl, fun i hi => absurd hi (by omega)⟩
  | k + 1 => by
    rcases want_spec l k with ⟨h, hn⟩ | ⟨j, hj, h, ht, hn⟩
    · cases hb : l.getD k false with
      | false =>
        refine .inl ⟨by unfold wantW; rw [h, if_neg (by omega), hb]; rfl, fun i hi => ?_⟩
        rcases (show i < k ∨ i = k by omega) with g | rfl
        · exact hn i g
        · exact hb
      | true => exact .inr ⟨k, by omega, by unfold wantW; rw [h, if_neg (by omega), hb]; rfl, hb, hn⟩
    · exact .inr ⟨j, by omega, by unfold wantW; rw [h, if_pos (by omega)], ht, hn⟩
theorem first_none {l : List Bool} (h1 : 1 ≤ l.length) (h2 : l.length ≤ 26) (hn : ∀ i, i < l.length → l.getD i false = false) : checkR (jobW l) = (0, 0, 0) := by
  unfold checkR checkS
  rw [head_W h1 h2]
  show (funcsS (fsW l l.length) 0 (fsW l l.length)).getD _ = _
  rw [funcs_miss _ _ fun x G hG => by
    obtain ⟨hx, rfl⟩ := fsW_only hG
    rw [Nat.zero_add, function_W hx h2, hn x hx]; rfl]
  rfl
theorem first_some {l : List Bool} (h2 : l.length ≤ 26) {j : Nat} (hj : j < l.length) (ht : l.getD j false = true) (hn : ∀ i, i < j → l.getD i false = false) : checkR (jobW l) = ((j : Int), 1, 11) := by
  unfold checkR checkS
  rw [head_W (by omega) h2]
  show (funcsS (fsW l l.length) 0 (fsW l l.length)).getD _ = _
  rw [funcs_hit (fs := fsW l l.length) (i := 1) (e := 11) _ 0 j (fW l j) (fsW_get hj) (by rw [Nat.zero_add, function_W hj h2, ht]; rfl) fun x G hx hG => by
    obtain ⟨hx', rfl⟩ := fsW_only hG
    rw [Nat.zero_add, function_W hx' h2, hn x hx]; rfl]
  simp
end Go.Proofs.YtgjdlloiiedpmaaLiftDoor
