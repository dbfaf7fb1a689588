/-
 Contracts of the reference's functions of charts: gaps, plain editions.
-/
import Derived.Test.YtjjklfgpffgnfabGreatDoorCsRows
namespace Go.AB
open Go Go.RowKit
open Go.PB (Chap TextD PlaceD)
def gapsE (t : TextD) (e : EditionD) : List PlaceD := bif decide (checkEr t e = 0) then gapsR (rowsT t e.ss) else []
noncomputable def plainE (t : TextD) (e : EditionD) : EditionD := bif decide (soundEr t e = 0) then ⟨e.id, plainR (rowsT t e.ss)⟩ else ⟨0, []⟩
theorem soundEr_check {t : TextD} {e : EditionD} (h : soundEr t e = 0) : checkEr t e = 0 ∧ firstC e.ss = none := by
 unfold soundEr at h
 by_cases h0 : checkEr t e = 0
 ·simp only [h0, decide_true, cond_true] at h
  cases hf : firstC e.ss with
  | none => exact ⟨h0, rfl⟩
  | some p => rw [hf] at h; simp at h
 rw [decide_eq_false h0] at h
 exact absurd h h0
end Go.AB
namespace Go.Proofs.YtjjklfgpffgnfabGreatDoor
set_option maxRecDepth 10000
open Go.RowKit Go.AB
open Go.AB.Enc (cells)
open Go.PB (Chap TextD PlaceD ReadingD CopyD WayD)
end Go.Proofs.YtjjklfgpffgnfabGreatDoor
