/-
 Contracts of the program's functions of charts: what is valid; books.
-/
import Derived.Test.YtejhjijbgceklaaCuFuncs
import Derived.Test.YtejhjijbgceklaaLcCheck
namespace Go.AB
open Go Go.RowKit
open Go.AB.Enc (cells)
open Go.PB (Chap TextD PlaceD)
end Go.AB
namespace Go.Proofs.Ytejhjijbgceklaa
set_option maxRecDepth 10000
open Go.RowKit Go.AB
open Go.AB.Enc (cells)
open Go.PB (Chap TextD PlaceD ReadingD CopyD WayD)
end Go.Proofs.Ytejhjijbgceklaa
