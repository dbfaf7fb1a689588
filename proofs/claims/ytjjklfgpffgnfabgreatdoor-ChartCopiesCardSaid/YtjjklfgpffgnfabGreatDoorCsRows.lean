/-
 Contracts of the reference's functions of charts: what clashes, rows, gaps, sound editions, plain ones.
-/
import Derived.Test.YtjjklfgpffgnfabGreatDoorCrOne
import Derived.Test.YtjjklfgpffgnfabGreatDoorGrpJ
namespace Go.AB
open Go Go.RowKit
open Go.PB (bh af PlaceD)
theorem clV {ss : List StretchD} {a b : Nat} (h : ff ss = some (a, b)) : clA ss = a ∧ clB ss = b := by simp [clA, clB, h]
theorem clN {ss : List StretchD} (h : ff ss = none) : clA ss = 0 ∧ clB ss = 0 := by simp [clA, clB, h]
theorem k8 {t : af} {e : aw} (h : ct t e = 0) : bw t = true ∧ e.ss.length ≤ 12 ∧ ∀ s ∈ e.ss, SOk s := by
 obtain ⟨h1, h2⟩ := ueu h
 exact ⟨h1, udz h1 h2⟩
end Go.AB
namespace Go.Proofs.YtjjklfgpffgnfabGreatDoor
set_option maxRecDepth 10000
open Go.RowKit Go.AB
open Go.AB.Enc (cells)
open Go.PB (bh af PlaceD ar bp cj)

end Go.Proofs.YtjjklfgpffgnfabGreatDoor
