/-
 Contracts of the reference's functions of charts: what clashes, rows, gaps, sound editions, plain ones.
-/
import Derived.Test.YtjjklfgpffgnfabGreatDoorCrOne
import Derived.Test.YtjjklfgpffgnfabGreatDoorCePlain
namespace Go.AB
open Go Go.RowKit
open Go.PB (Chap TextD PlaceD)
theorem clV {ss : List StretchD} {a b : Nat} (h : firstC ss = some (a, b)) : clA ss = a ∧ clB ss = b := by simp [clA, clB, h]
theorem clN {ss : List StretchD} (h : firstC ss = none) : clA ss = 0 ∧ clB ss = 0 := by simp [clA, clB, h]
theorem checkEr_text {t : TextD} {e : EditionD} (h : checkEr t e = 0) : textB t = true ∧ e.ss.length ≤ 12 ∧ ∀ s ∈ e.ss, SOk s := by
 obtain ⟨h1, h2⟩ := checkEr_ok h
 exact ⟨h1, edition_ok h1 h2⟩
end Go.AB
namespace Go.Proofs.YtjjklfgpffgnfabGreatDoor
set_option maxRecDepth 10000
open Go.RowKit Go.AB
open Go.AB.Enc (cells)
open Go.PB (Chap TextD PlaceD ReadingD CopyD WayD)

end Go.Proofs.YtjjklfgpffgnfabGreatDoor
