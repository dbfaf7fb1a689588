/-
 The arguments of the laws of charts: places and references.
-/
import Derived.Test.YtjjklfgpffgnfaaGreatDoorOpenC
import Derived.Test.YtjjklfgpffgnfaaGreatDoorEaPlain
namespace Go.AB
open Go Go.RowKit
open Go.AB.Enc (cells)
open Go.PB (bv ai PlaceD cy c6 cz)
end Go.AB
namespace Go.Proofs.YtjjklfgpffgnfaaGreatDoor
set_option maxRecDepth 10000
open Go.ChangeShapes Go.WideShapes Go.ChangeAt Go.RowKit Go.AB
open Go.AB.Enc (cells)
open Go.PB (bv ai PlaceD cy c6 cz)
theorem zd : jz Tryz.prog 32 [(0, 3, 1), (1, 3, 1), (2, 3, 1)] 3 = true := by kernel_rfl
instance : OpensE Tryz.prog 32 PlaceD := .place (tI := 3) zd
end Go.Proofs.YtjjklfgpffgnfaaGreatDoor
