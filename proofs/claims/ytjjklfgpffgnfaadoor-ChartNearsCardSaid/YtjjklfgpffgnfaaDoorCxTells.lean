/-
  Contracts of the program's functions of charts: what clashes, gaps, sound editions, plain ones.
-/
import Derived.Test.YtjjklfgpffgnfaaDoorCwLines
namespace Go.AB
open Go Go.RowKit
open Go.AB.Enc (cells)
open Go.PB (Chap TextD PlaceD ReadingD CopyD WayD)
theorem linesT_len {t : TextD} (ht : textB t = true) : (linesT t).length ≤ 60 := by
  rw [← rows_lines t [], List.length_map]
  exact rowsT_all ht []
theorem soundEr_err {t : TextD} {e : EditionD} (h : soundEr t e ≠ 0) : checkEr t e ≠ 0 ∧ soundEr t e = checkEr t e ∨ checkEr t e = 0 ∧ (firstC e.ss).isSome = true ∧ soundEr t e = 8 := by
  unfold soundEr at h ⊢
  by_cases h0 : checkEr t e = 0
  · right
    rw [decide_eq_true h0] at h ⊢
    cases hf : (firstC e.ss).isSome with
    | false => rw [hf] at h; exact absurd rfl h
    | true => exact ⟨h0, rfl, rfl⟩
  · left
    rw [decide_eq_false h0]
    exact ⟨h0, rfl⟩
end Go.AB
namespace Go.Proofs.YtjjklfgpffgnfaaDoor
set_option maxRecDepth 10000
open Go.RowKit Go.AB
open Go.AB.Enc (cells)
open Go.PB (Chap TextD PlaceD ReadingD CopyD WayD)
end Go.Proofs.YtjjklfgpffgnfaaDoor
