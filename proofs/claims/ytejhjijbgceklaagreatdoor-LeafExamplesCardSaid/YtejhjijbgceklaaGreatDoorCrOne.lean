/-
 Contracts of the reference's functions of charts: valid editions, what clashes.
-/
import Derived.Test.YtejhjijbgceklaaGreatDoorCfFuncs
import Derived.Test.YtejhjijbgceklaaGreatDoorGrpA
namespace Go.AB
open Go Go.RowKit
open Go.PB (Chap TextD PlaceD)
end Go.AB
namespace Go.Proofs.YtejhjijbgceklaaGreatDoor
set_option maxRecDepth 10000
open Go.RowKit Go.AB
open Go.AB.Enc (cells)
open Go.PB (Chap TextD PlaceD ReadingD CopyD WayD)
end Go.Proofs.YtejhjijbgceklaaGreatDoor
