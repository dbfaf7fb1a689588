/-
 Keys: places.
-/
import Derived.Test.YtejhjijbgceklaaAbEntry
import Derived.Test.YtejhjijbgceklaaCkKeys
namespace Go.AB
open Go Go.RowKit
open Go.PB (Chap TextD PlaceD ReadingD CopyD WayD)
end Go.AB
namespace Go.Proofs.Ytejhjijbgceklaa
set_option maxRecDepth 10000
open Go Go.RowKit Go.AB
open Go.PB (Chap TextD PlaceD ReadingD CopyD WayD)
end Go.Proofs.Ytejhjijbgceklaa
