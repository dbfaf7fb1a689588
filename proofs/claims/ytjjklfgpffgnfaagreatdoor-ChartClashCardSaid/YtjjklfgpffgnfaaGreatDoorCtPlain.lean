/-
 Contracts of the reference's functions of charts: gaps, plain editions.
-/
import Derived.Test.YtjjklfgpffgnfaaGreatDoorCsRows
namespace Go.AB
open Go Go.RowKit
open Go.PB (bv ai PlaceD)
def p8 (t : ai) (e : av) : List PlaceD := bif decide (cw t e = 0) then ti (ja t e.ss) else []
theorem lg {t : ai} {e : av} (h : bz t e = 0) : cw t e = 0 ∧ ef e.ss = none := by
 unfold bz at h
 by_cases h0 : cw t e = 0
 ·simp only [h0, decide_true, cond_true] at h
  cases hf : ef e.ss with
  | none => exact ⟨h0, rfl⟩
  | some p => rw [hf] at h; simp at h
 rw [decide_eq_false h0] at h
 exact absurd h h0
end Go.AB
namespace Go.Proofs.YtjjklfgpffgnfaaGreatDoor
set_option maxRecDepth 10000
open Go.RowKit Go.AB
open Go.AB.Enc (cells)
open Go.PB (bv ai PlaceD cy c6 cz)
end Go.Proofs.YtjjklfgpffgnfaaGreatDoor
