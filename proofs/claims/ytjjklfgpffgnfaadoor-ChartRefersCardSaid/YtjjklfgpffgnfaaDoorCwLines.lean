/-
  The iterator over the lines of a text.
-/
import Derived.Test.YtjjklfgpffgnfaaDoorCvOpen
import Derived.Test.YtjjklfgpffgnfaaDoorItData
namespace Go.AB
open Go Go.RowKit
open Go.AB.Enc (cells)
open Go.PB (Chap TextD PlaceD ReadingD CopyD WayD)
end Go.AB
namespace Go.Proofs.YtjjklfgpffgnfaaDoor
set_option maxRecDepth 10000
open Go.RowKit Go.AB
open Go.AB.Enc (cells)
open Go.PB (Chap TextD PlaceD ReadingD CopyD WayD)
end Go.Proofs.YtjjklfgpffgnfaaDoor
