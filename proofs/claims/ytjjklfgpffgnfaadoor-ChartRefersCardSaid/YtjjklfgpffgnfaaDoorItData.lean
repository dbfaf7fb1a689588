/-
  Values as they are, told out of abstract cells; all places of a text, with their words.
-/
import Derived.Test.YtjjklfgpffgnfaaDoorEngB
import Derived.Test.YtjjklfgpffgnfaaDoorAdData
namespace Go.AB
open Go Go.RowKit
open Go.AB.Enc (cells)
open Go.PB (Chap TextD PlaceD ReadingD CopyD WayD)

section
variable {E : Env} {w : World}
end

/-! ### All places, with their words -/
end Go.AB
