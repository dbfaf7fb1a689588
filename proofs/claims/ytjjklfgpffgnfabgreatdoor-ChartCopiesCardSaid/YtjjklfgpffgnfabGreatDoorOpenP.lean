/-
 The arguments of the laws of charts: places and references.
-/
import Derived.Test.YtjjklfgpffgnfabGreatDoorGrpO
import Derived.Test.YtjjklfgpffgnfabGreatDoorEaPlain
namespace Go.AB
open Go Go.RowKit
open Go.AB.Enc (cells)
open Go.PB (bh af PlaceD ar bp cj)
end Go.AB
namespace Go.Proofs.YtjjklfgpffgnfabGreatDoor
set_option maxRecDepth 10000
open Go.ChangeShapes Go.WideShapes Go.ChangeAt Go.RowKit Go.AB
open Go.AB.Enc (cells)
open Go.PB (bh af PlaceD ar bp cj)
theorem ujk : i0 Tryz.prog 49 [(0, 3, 1), (1, 3, 1), (2, 3, 1)] 3 = true := by kernel_rfl
instance : OpensE Tryz.prog 49 PlaceD := .place (tI := 3) ujk
end Go.Proofs.YtjjklfgpffgnfabGreatDoor
