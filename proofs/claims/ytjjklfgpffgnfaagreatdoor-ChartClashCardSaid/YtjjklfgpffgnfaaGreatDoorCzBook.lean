/-
 Contracts of the program's functions of charts: plain editions; lists that are the same.
-/
import Derived.Test.YtjjklfgpffgnfaaGreatDoorCyPlain
namespace Go.Proofs.YtjjklfgpffgnfaaGreatDoor
set_option maxRecDepth 10000
open Go.RowKit Go.AB
open Go.AB.Enc (cells)
open Go.PB (bv ai PlaceD cy c6 cz)
theorem umv (a : av) : c8 Tryz.prog 30 [val a, val a] (.v (.bool true)) := by
 have := umw a a
 rwa [decide_eq_true rfl] at this
end Go.Proofs.YtjjklfgpffgnfaaGreatDoor
