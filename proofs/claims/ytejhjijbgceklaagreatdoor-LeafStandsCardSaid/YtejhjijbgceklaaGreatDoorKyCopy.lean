/-
 The words of a copy; its text is a valid one.
-/
import Derived.Test.YtejhjijbgceklaaGreatDoorGrpH
namespace Go.AB
open Go Go.RowKit
open Go.AB.Enc (cells)
open Go.PB (Chap TextD PlaceD ReadingD CopyD WayD)
section
variable {t : TextD} {rs : List ReadingD}
/-! ### The words of a copy -/
end
end Go.AB
