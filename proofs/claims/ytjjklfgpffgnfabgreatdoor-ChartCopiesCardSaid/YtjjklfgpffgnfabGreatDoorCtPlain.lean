/-
 Contracts of the reference's functions of charts: gaps, plain editions.
-/
import Derived.Test.YtjjklfgpffgnfabGreatDoorCsRows
namespace Go.AB
open Go Go.RowKit
open Go.PB (bh af PlaceD)
def nv (t : af) (e : aw) : List PlaceD := bif decide (ct t e = 0) then vd (je t e.ss) else []
theorem lp {t : af} {e : aw} (h : cb t e = 0) : ct t e = 0 ∧ ff e.ss = none := by
 unfold cb at h
 by_cases h0 : ct t e = 0
 ·simp only [h0, decide_true, cond_true] at h
  cases hf : ff e.ss with
  | none => exact ⟨h0, rfl⟩
  | some p => rw [hf] at h; simp at h
 rw [decide_eq_false h0] at h
 exact absurd h h0
end Go.AB
namespace Go.Proofs.YtjjklfgpffgnfabGreatDoor
set_option maxRecDepth 10000
open Go.RowKit Go.AB
open Go.AB.Enc (cells)
open Go.PB (bh af PlaceD ar bp cj)
end Go.Proofs.YtjjklfgpffgnfabGreatDoor
