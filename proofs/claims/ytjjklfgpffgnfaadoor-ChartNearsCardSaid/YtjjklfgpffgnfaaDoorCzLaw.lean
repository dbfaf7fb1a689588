/-
  The law ChartTells: its walk.
-/
import Derived.Test.YtjjklfgpffgnfaaDoorCyPlain
namespace Go.Proofs.YtjjklfgpffgnfaaDoor
set_option maxRecDepth 10000
open Go.RowKit Go.AB
open Go.AB.Enc (cells)
open Go.PB (Chap TextD PlaceD ReadingD CopyD WayD)
/-! ### The law -/
theorem SamePlaces_self (a : List PlaceD) : Pure Tryd.prog 18 [lst a, lst a] (.v (.bool true)) := by
  have := SamePlaces_pure a a
  rwa [decide_eq_true rfl] at this
theorem Same2_self (a : EditionD) : Pure Tryd.prog 19 [val a, val a] (.v (.bool true)) := by
  have := Same2_pure a a
  rwa [decide_eq_true rfl] at this
theorem Same_self (a : TextD) : Pure Tryd.prog 20 [textC a, textC a] (.v (.bool true)) := by
  have := Same_pure a a
  rwa [decide_eq_true rfl] at this
end Go.Proofs.YtjjklfgpffgnfaaDoor
