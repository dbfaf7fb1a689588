/-
 Charts in plain words: the last line of a chapter; lines that are moved.
-/
import Derived.Test.YtejhjijbgceklaaGreatDoorGrpC
namespace Go.AB
open Go Go.RowKit
open Go.PB (Chap TextD PlaceD ReadingD CopyD WayD)
/-! ### Lines and numbers of a sound edition -/
/-! ### Lines that are moved -/
/-! ### Splitting and joining -/
end Go.AB
