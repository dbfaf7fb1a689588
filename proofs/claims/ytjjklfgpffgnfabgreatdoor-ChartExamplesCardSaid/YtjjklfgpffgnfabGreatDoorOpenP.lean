/-
 The arguments of the laws of charts: places and references.
-/
import Derived.Test.YtjjklfgpffgnfabGreatDoorOpenC
import Derived.Test.YtjjklfgpffgnfabGreatDoorEaPlain
namespace Go.AB
open Go Go.RowKit
open Go.AB.Enc (cells)
open Go.PB (Chap TextD PlaceD ReadingD CopyD WayD)
end Go.AB
namespace Go.Proofs.YtjjklfgpffgnfabGreatDoor
set_option maxRecDepth 10000
open Go.ChangeShapes Go.WideShapes Go.ChangeAt Go.RowKit Go.AB
open Go.AB.Enc (cells)
open Go.PB (Chap TextD PlaceD ReadingD CopyD WayD)
end Go.Proofs.YtjjklfgpffgnfabGreatDoor
