/-
 Contracts of the reference's functions of charts: what clashes, rows, gaps, sound editions, plain ones.
-/
import Derived.Test.YtjjklfgpffgnfaaGreatDoorCrOne
import Derived.Test.YtjjklfgpffgnfaaGreatDoorCePlain
namespace Go.AB
open Go Go.RowKit
open Go.PB (bv ai PlaceD)
theorem clV {ss : List StretchD} {a b : Nat} (h : ef ss = some (a, b)) : clA ss = a ∧ clB ss = b := by simp [clA, clB, h]
theorem clN {ss : List StretchD} (h : ef ss = none) : clA ss = 0 ∧ clB ss = 0 := by simp [clA, clB, h]
theorem kq {t : ai} {e : av} (h : cw t e = 0) : ct t = true ∧ e.ss.length ≤ 12 ∧ ∀ s ∈ e.ss, SOk s := by
 obtain ⟨h1, h2⟩ := tz h
 exact ⟨h1, ubx h1 h2⟩
end Go.AB
namespace Go.Proofs.YtjjklfgpffgnfaaGreatDoor
set_option maxRecDepth 10000
open Go.RowKit Go.AB
open Go.AB.Enc (cells)
open Go.PB (bv ai PlaceD cy c6 cz)

end Go.Proofs.YtjjklfgpffgnfaaGreatDoor
