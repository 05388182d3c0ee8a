/- '(*checker).named': has a function a name of its own? No condition. -/
import Derived.Test.YtgjdlloiiedpmaaLiftDoorHead
namespace Go.Proofs.YtgjdlloiiedpmaaLiftDoor
open Go.RowKit

def nameOf (fs : List SFunc) (k : Nat) : ByteArray := (fs[k]?.map (·.name)).getD ⟨#[]⟩
def namedS (fs : List SFunc) (k : Nat) : Bool := (fs.take k).all (fun f => !(f.name.toList == (nameOf fs k).toList)) && nameOk (nameOf fs k).data.toList

set_option maxHeartbeats 2000000 in
theorem named_fn (B : Nat) (cb : Nat) (k : Nat) (fs : List SFunc) (fv : Value) (w : World) (hk : k < fs.length) (c0 : w.cell? ⟨cb, 0, none⟩ = some fv) (hB : B ≤ w.heap.size)
    (hf : FuncsAt B w fv fs) :
    Calls Tryl.prog 27 #[.pointer (some ⟨cb, 0, none⟩), .int .i64 k] w fun e w' => e = .returned (.bool (namedS fs k)) ∧ Kp No w w' := by
  obtain ⟨fao, fcap, rfl, f1, f2, f3⟩ := hf.ex
  obtain ⟨fb, fo, hfb, rfl, hfc⟩ := f3 (by omega)
  obtain ⟨g, hg⟩ : ∃ g, fs[k]? = some g := ⟨_, List.getElem?_eq_getElem hk⟩
  obtain ⟨hgs, cN, -⟩ := hfc k g hg
  have HG : Hid (nameOf fs k = g.name) := by unfold Hid nameOf; rw [hg]; rfl
  go_enter Tryl.func27, Tryl.ntmps27
  go_wp2
  go_outline
  go_loopw [15] (fun i wr => ∃ j : Nat, j ≤ k ∧ i = .int .i64 j ∧ (fs.take j).all (fun f => !(f.name.toList == g.name.toList)) = true ∧ Kp No w wr) (fun i _ => k - (intOf i).toNat)
  case atStart => exact ⟨0, by omega, rfl, by simp, Kp.refl _ _⟩
  case round =>
    obtain ⟨j, hj, rfl, ha, hkp⟩ := hrel
    by_cases hlt : j < k
    · obtain ⟨f, hf'⟩ : ∃ f, fs[j]? = some f := ⟨_, List.getElem?_eq_getElem (by omega)⟩
      obtain ⟨hfs, n0, n1, n2, cv, n3, hcv⟩ := hfc j f hf'
      obtain ⟨cao, ccap, rfl, -, -, -⟩ := hcv.ex
      have m0 := hkp.cell n0 (fun h => h)
      have m1 := hkp.cell n1 (fun h => h)
      have m2 := hkp.cell n2 (fun h => h)
      have m3 := hkp.cell n3 (fun h => h)
      have mc := hkp.cell c0 (fun h => h)
      have mN := hkp.cell cN (fun h => h)
      have hs := hkp.size
      have hcb := World.block_lt_of_cell? _ _ mc
      have hfb' := World.block_lt_of_cell? _ _ mN
      simp only at hcb hfb'
      have HT : Hid ((fs.take (j + 1)).all (fun f => !(f.name.toList == g.name.toList)) = !(f.name.toList == g.name.toList)) := by
        have hjl : j < fs.length := by omega
        have : fs[j] = f := by rw [List.getElem?_eq_getElem hjl] at hf'; exact Option.some.inj hf'
        unfold Hid
        rw [List.take_succ_eq_append_getElem hjl, List.all_append, ha, this]; simp
      have HN : Hid ((f.name.toList == g.name.toList) = true → namedS fs k = false) := fun he => by
        unfold namedS
        rw [HG.out, Bool.and_eq_false_iff]; left
        rw [Bool.eq_false_iff]; intro hall
        have := List.all_eq_true.1 hall f (List.mem_iff_getElem?.2 ⟨j, by rw [List.getElem?_take, if_pos hlt]; exact hf'⟩)
        rw [he] at this; cases this
      clear n0 n1 n2 n3 hfc f3 ha
      by_cases he : f.name.toList = g.name.toList
      · have he1 : (f.name.toList == g.name.toList) = true := by simp [he]
        have HN' : Hid (namedS fs k = false) := HN.out he1
        clear he HN HT
        go_wp2
        go_quiet (fail)
        go_wp2
        go_ret
        exact ⟨ret_bool HN'.out.symm, ((hkp.alloc _).drewN _)⟩
      · have he1 : (f.name.toList == g.name.toList) = false := by simp [he]
        have HT' : Hid ((fs.take (j + 1)).all (fun f => !(f.name.toList == g.name.toList)) = true) := by unfold Hid; rw [HT.out, he1]; rfl
        clear he HN HT
        go_wp2
        go_quiet (fail)
        go_wp2
        go_roundw
        case rel => exact ⟨j + 1, by omega, by go_num, HT'.out, (hkp.alloc _).drewN _⟩
        case measure => simp [intOf]; omega
    · obtain rfl : j = k := by omega
      have mc := hkp.cell c0 (fun h => h)
      have mN := hkp.cell cN (fun h => h)
      have HN : Hid (namedS fs j = nameOk g.name.data.toList) := by
        unfold Hid namedS; rw [HG.out, ha]; rfl
      clear hfc f3 ha
      go_wp2_with (go_at_call 39; (with_reducible refine (named_any _ _ hgs).mono ?_); rintro e w' ⟨rfl, hb⟩)
      go_ret
      exact ⟨ret_bool HN.out.symm, hkp.trans (Kp.of_new hb) (fun _ _ h => h)⟩
end Go.Proofs.YtgjdlloiiedpmaaLiftDoor
