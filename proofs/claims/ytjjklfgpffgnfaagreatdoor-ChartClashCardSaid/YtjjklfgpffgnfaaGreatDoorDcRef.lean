/-
 Contracts of the reference's functions of charts: the last line of a chapter; editions whose chapters are split and joined.
-/
import Derived.Test.YtjjklfgpffgnfaaGreatDoorDaPlain
namespace Go.AB
open Go Go.RowKit
open Go.AB.Enc (cells)
open Go.PB (bv ai PlaceD cy c6 cz)
theorem uil {lo hi n m k : Int} : jp lo hi [n, m, k] = (inB n lo hi && (inB m lo hi && inB k lo hi)) := by rw [← m5, ← m5, ← m5]; simp [jp]
end Go.AB
namespace Go.Proofs.YtjjklfgpffgnfaaGreatDoor
set_option maxRecDepth 10000
open Go.RowKit Go.AB
open Go.AB.Enc (cells)
open Go.PB (bv ai PlaceD cy c6 cz)
end Go.Proofs.YtjjklfgpffgnfaaGreatDoor
