/-
 Contracts of the program's functions of charts: plain editions; lists that are the same.
-/
import Derived.Test.YtjjklfgpffgnfabGreatDoorCyPlain
namespace Go.Proofs.YtjjklfgpffgnfabGreatDoor
set_option maxRecDepth 10000
open Go.RowKit Go.AB
open Go.AB.Enc (cells)
open Go.PB (Chap TextD PlaceD ReadingD CopyD WayD)
theorem Same2_self (a : EditionD) : Pure Tryz.prog 19 [val a, val a] (.v (.bool true)) := by
 have := Same2_pure a a
 rwa [decide_eq_true rfl] at this
end Go.Proofs.YtjjklfgpffgnfabGreatDoor
