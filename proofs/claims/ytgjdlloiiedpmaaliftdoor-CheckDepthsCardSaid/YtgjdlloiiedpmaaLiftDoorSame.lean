/- 'SameInts'. No condition. -/
import Derived.Test.YtgjdlloiiedpmaaLiftDoorDepths
namespace Go.Proofs.YtgjdlloiiedpmaaLiftDoor
open Go.RowKit

theorem take_step {α} {a b : List α} {k : Nat} (h : a.take k = b.take k) (ha : k < a.length) (hb : k < b.length) (he : a[k] = b[k]) : a.take (k + 1) = b.take (k + 1) := by
  rw [List.take_succ_eq_append_getElem ha, List.take_succ_eq_append_getElem hb, h, he]
theorem ne_at {a b : List Int} {k : Nat} (ha : k < a.length) (hb : k < b.length) (he : a[k] ≠ b[k]) : (a == b) = false := by
  simp; intro h; subst h; exact he rfl
theorem eq_end {a b : List Int} (hl : a.length = b.length) (h : a.take a.length = b.take a.length) : (a == b) = true := by
  simp; rw [List.take_of_length_le (Nat.le_refl _), hl, List.take_of_length_le (Nat.le_refl _)] at h; exact h
/-- A slice of ints, wherever it lies. -/
structure IntsIn (w : World) (v : Value) (l : List Int) : Prop where
  ex : ∃ ao cap, v = .slice ao l.length cap ∧ (0 < l.length → ∃ b o, ao = some ⟨b, o, none⟩ ∧ ∀ j x, l[j]? = some x → w.cell? ⟨b, o + j, none⟩ = some (.int .i64 x))
theorem IntsIn.kp {w w' : World} {v : Value} {l : List Int} (h : IntsIn w v l) (k : Kp No w w') : IntsIn w' v l := by
  obtain ⟨ao, cap, hv, hc⟩ := h.ex
  refine ⟨ao, cap, hv, fun hp => ?_⟩
  obtain ⟨b, o, ha, hb⟩ := hc hp
  exact ⟨b, o, ha, fun j x hx => k.cell (hb j x hx) (fun x => x)⟩
theorem intsIn_of {B : Nat} {w : World} {v : Value} {r : Option (List Int)} (h : IntsOf B w v r) : IntsIn w v (r.getD []) := by
  cases r with
  | none => exact ⟨none, 0, h, fun hp => absurd hp (by decide)⟩
  | some D =>
    obtain ⟨b, cap, hv, _, ha⟩ := h
    exact ⟨_, cap, hv, fun _ => ⟨b, 0, rfl, fun j x hx => by rw [Nat.zero_add]; exact ha.cell (by rw [ints, List.getElem?_map]; show Option.map _ D[j]? = _; rw [show D[j]? = some x from hx]; rfl)⟩⟩

set_option maxRecDepth 100000 in
set_option maxHeartbeats 2000000 in
theorem same_any (a b : List Int) (va vb : Value) (w : World) (ha : IntsIn w va a) (hb : IntsIn w vb b) (hla : a.length ≤ 1000000) :
    Calls Tryl.prog 14 #[va, vb] w fun e w' => e = .returned (.bool (a == b)) ∧ Kp No w w' := by
  obtain ⟨ao, ca, rfl, ha3⟩ := ha.ex
  obtain ⟨bo, cb, rfl, hb3⟩ := hb.ex
  by_cases hl : a.length = b.length
  · have Hl := Lib.hid hl
    clear hl ha hb
    have hll : ((a.length : Int) != (b.length : Int)) = false := by simp [Hl.out]
    go_enter Tryl.func14, Tryl.ntmps14
    go_wp2
    go_loopw [5] (fun i wr => ∃ k : Nat, k ≤ a.length ∧ i = .int .i64 k ∧ a.take k = b.take k ∧ Kp No w wr) (fun i _ => a.length - (intOf i).toNat)
    case atStart => exact ⟨0, by omega, rfl, by simp, Kp.refl _ _⟩
    case round =>
      obtain ⟨k, hk, rfl, he, hkp⟩ := hrel
      have HE := Lib.hid he
      clear he
      by_cases hlt : k < a.length
      · obtain ⟨ab, aof, rfl, hac⟩ := ha3 (by omega)
        obtain ⟨bb, bof, rfl, hbc⟩ := hb3 (by have := Hl.out; omega)
        have hlb : k < b.length := Hl.out ▸ hlt
        obtain ⟨x, hx⟩ : ∃ x, a[k]? = some x := ⟨_, List.getElem?_eq_getElem hlt⟩
        obtain ⟨y, hy⟩ : ∃ y, b[k]? = some y := ⟨_, List.getElem?_eq_getElem hlb⟩
        have h1 := hkp.cell (hac k x hx) (fun x => x)
        have h2 := hkp.cell (hbc k y hy) (fun x => x)
        have hxa : a[k] = x := by rw [List.getElem?_eq_getElem hlt] at hx; exact Option.some.inj hx
        have hyb : b[k] = y := by rw [List.getElem?_eq_getElem hlb] at hy; exact Option.some.inj hy
        have HX := Lib.hid hxa
        have HY := Lib.hid hyb
        have i1 : (k : Int) < a.length := by omega
        have i2 : (k : Int) < b.length := by omega
        have i0 : (0 : Int) ≤ k := by omega
        clear hac hbc ha3 hb3 hx hy hxa hyb
        by_cases hxy : x = y
        · have e1 : (x != y) = false := by simp [hxy]
          have HT := Lib.hid (take_step HE.out hlt hlb (by rw [HX.out, HY.out, hxy]))
          clear hxy
          go_wp2
          go_quiet (fail)
          go_wp2
          go_roundw
          case rel => exact ⟨k + 1, by omega, by go_num, HT.out, hkp.drewN _⟩
          case measure => simp [intOf]; omega
        · have e1 : (x != y) = true := by simp [hxy]
          have HT := Lib.hid (ne_at hlt hlb (by rw [HX.out, HY.out]; exact hxy))
          clear hxy
          go_wp2
          go_quiet (fail)
          go_wp2
          go_ret
          exact ⟨ret_bool HT.out.symm, hkp.drewN _⟩
      · have HT := Lib.hid (eq_end Hl.out (by have := HE.out; rw [show k = a.length by omega] at this; exact this))
        go_wp2
        go_ret
        exact ⟨ret_bool HT.out.symm, hkp⟩
  · have hll : ((a.length : Int) != (b.length : Int)) = true := by simp; omega
    have HT := Lib.hid (show (a == b) = false by simp; intro h; exact hl (by rw [h]))
    clear hl ha hb ha3 hb3
    go_enter Tryl.func14, Tryl.ntmps14
    go_wp2
    go_ret
    exact ⟨ret_bool HT.out.symm, Kp.refl _ _⟩
end Go.Proofs.YtgjdlloiiedpmaaLiftDoor
