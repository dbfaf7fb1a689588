/-
 Contracts of the reference's functions of charts: the last line of a chapter; editions whose chapters are split and joined.
-/
import Derived.Test.YtjjklfgpffgnfabGreatDoorDaPlain
namespace Go.AB
open Go Go.RowKit
open Go.AB.Enc (cells)
open Go.PB (Chap TextD PlaceD ReadingD CopyD WayD)
theorem inAll_three {lo hi n m k : Int} : inAll lo hi [n, m, k] = (inB n lo hi && (inB m lo hi && inB k lo hi)) := by rw [← outB_inB, ← outB_inB, ← outB_inB]; simp [inAll]
end Go.AB
namespace Go.Proofs.YtjjklfgpffgnfabGreatDoor
set_option maxRecDepth 10000
open Go.RowKit Go.AB
open Go.AB.Enc (cells)
open Go.PB (Chap TextD PlaceD ReadingD CopyD WayD)
end Go.Proofs.YtjjklfgpffgnfabGreatDoor
