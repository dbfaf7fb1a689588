/-
  Lines of an edition in their order; equality of lines; what sorts them.
-/
import Derived.Test.YtjjklfgpffgnfaaDoorEgComp
import Derived.Test.YtjjklfgpffgnfaaDoorEaPlain
import Derived.Test.YtjjklfgpffgnfaaDoorCvOpen
import Derived.Test.YtjjklfgpffgnfaaDoorLay
import Derived.ChangeKeysEq
namespace Go.AB
open Go Go.RowKit
open Go.AB.Enc (cells)
open Go.PB (Chap TextD PlaceD ReadingD CopyD WayD)
end Go.AB
namespace Go.Proofs.YtjjklfgpffgnfaaDoor
set_option maxRecDepth 10000
open Go.RowKit Go.AB
open Go.AB.Enc (cells)
open Go.PB (Chap TextD PlaceD ReadingD CopyD WayD)
end Go.Proofs.YtjjklfgpffgnfaaDoor
