/- A statement whose order is open, all of whose operations but the last few only read: one walk in the order of the text. No condition. -/
import Derived.Test.YtgjdlloiiedpmaaLiftDoorMem
import Derived.StillTail
import Derived.StillTailTactics
namespace Go.Proofs.YtgjdlloiiedpmaaLiftDoor
open Go.RowKit

theorem still_of_quiet {P : Program} {ops : Array Oper} {w : World} {Q : Act → Prop} : ∀ (l : List Oper) (a : Act), wpQuiet P ops (fun w' => w' = w) Q l a → wpStill P ops w Q l a
  | [], _, h => h
  | o :: l, a, h => by
    unfold wpQuiet at h
    unfold wpStill
    split
    · rename_i hg
      rw [if_pos hg] at h
      obtain ⟨v, hq, hn⟩ := h
      have hq := hq w rfl
      have hn := still_of_quiet l _ hn
      unfold Oper.quietAt at hq
      unfold Oper.still
      generalize (execOp a.eval o).run P w = r at hq
      cases r with
      | ok n w' =>
        cases n <;> simp only [Oper.quietUpon] at hq <;> simp only [Oper.stillUpon]
        case value u => exact ⟨hq.1, by rw [hq.2]; exact hn⟩
        case skip => exact ⟨hq.1, by rw [← hq.2]; exact hn⟩
        case enter f args => exact ⟨hq.1, v, hq.2, hn⟩
      | halt x w' => simp only [Oper.quietUpon] at hq
    · rename_i hg
      rw [if_neg hg] at h
      exact still_of_quiet l _ h

/-- Reads first, then what it likes: n: how many operations only read. -/
theorem wp_quiet_tail {P : Program} {id : Nat} {Q : Exit → Act → World → Prop} {a : Act} {w : World} {l : List Oper} (n : Nat) (hm : P.follows .mixedOrders = true) (hB : Region.lexTailB .any l.toArray n = true)
    (h : wpQuiet P l.toArray (fun w' => w' = w.drew) (fun a' => wpList P l.toArray Q (l.drop n) a' w.drew) (l.take n) a) : (Code.region id l.toArray true).wp P Q a w :=
  wp_region_still_tail n hm hB (still_of_quiet _ _ h)
theorem cell_al {w : World} {p : Addr} {v : Value} (h : w.cell? p = some v) (o : Obj) : (w.alloc o).cell? p = some v :=
  (World.cell?_alloc_lt _ _ p (World.block_lt_of_cell? _ _ h)).trans h
theorem kp_al (w : World) (o : Obj) : Kp No w (w.alloc o) := (Kp.refl _ _).alloc _
end Go.Proofs.YtgjdlloiiedpmaaLiftDoor
