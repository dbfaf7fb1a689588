/-
 Copies in plain words: the readings of a place, the lines of a copy, valid copies.
-/
import Derived.Test.YtejhjijbgceklaaEaPlain
namespace Go.AB
open Go Go.RowKit
open Go.AB.Enc (cells)
open Go.PB (Chap TextD PlaceD ReadingD CopyD WayD)
/-! ### Valid copies -/
/-! ### The words of a place, as they come about -/
end Go.AB
