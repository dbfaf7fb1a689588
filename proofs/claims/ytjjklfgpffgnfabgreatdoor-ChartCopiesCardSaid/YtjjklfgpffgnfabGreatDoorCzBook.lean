/-
 Contracts of the program's functions of charts: plain editions; lists that are the same.
-/
import Derived.Test.YtjjklfgpffgnfabGreatDoorCyPlain
namespace Go.Proofs.YtjjklfgpffgnfabGreatDoor
set_option maxRecDepth 10000
open Go.RowKit Go.AB
open Go.AB.Enc (cells)
open Go.PB (bh af PlaceD ar bp cj)
theorem uq2 (a : List PlaceD) : ce Tryz.prog 36 [lst a, lst a] (.v (.bool true)) := by
 have := uft a a
 rwa [decide_eq_true rfl] at this
theorem uq5 (a : aw) : ce Tryz.prog 19 [val a, val a] (.v (.bool true)) := by
 have := uq6 a a
 rwa [decide_eq_true rfl] at this
end Go.Proofs.YtjjklfgpffgnfabGreatDoor
