/-
  DERIVED. GIVEN WITH THE SEED: THE PROGRAM's TIES (one call each: nine closed facts by the kernel) AND EACH ROW's TIE, after the 31st guide's Derived/Test/Toyas{Tie, Card}.lean. No idea stands in it: it is a product of the set-up. Laid BY PROGRAM, IN A SANDBOX (cutbox-door.mjs). By AI agents, Wed Nov 11 2026. No macro, syntax, notation, axiom, sorry.
-/
import Derived.Test.YtjjklfgpffgnfabGreatDoorRows
import Derived.LaidByTextLater
import Derived.SevenTiedAt
import Derived.LaidSub
import Derived.LaidOnce
namespace Go.Proofs.YtjjklfgpffgnfabGreatDoor
open Go
set_option maxRecDepth 100000
theorem seatTie1 : Tryz.prog.laidByTextLater [("postil/leaf.kinds", Rows.laid_postil_leaf_kinds), ("postil/chart.checks", Rows.laid_postil_chart_checks)] [.funcs, .funcs] true :=
  Program.laidByTextLater_by_one 25 8 2 (by kernel_rfl) (by kernel_rfl) (by kernel_rfl) (by kernel_rfl) (by kernel_rfl) (by kernel_rfl) (fun _ _ => by kernel_rfl)
theorem noOwnUnsafe : Tryz.pinned.checked.prog.headLifts.contains "ownunsafe" = false := by kernel_rfl
theorem tie : Tryz.prog.laidByTextLater [("postil/chart.checks", Rows.laid_postil_chart_checks)] [.funcs] true :=
  Program.laidByTextLater.sub seatTie1 ["postil/chart.checks"] (by kernel_rfl) (by kernel_rfl)
theorem chartExamples_row_tie : Rows.chartExamplesRow.laidByTextAt .later Tryz.pinned [.funcs] true :=
  OpenClaim.laidByTextAt_later rfl rfl tie noOwnUnsafe
theorem chartNearest_row_tie : Rows.chartNearestRow.laidByTextAt .later Tryz.pinned [.funcs] true :=
  OpenClaim.laidByTextAt_later rfl rfl tie noOwnUnsafe
theorem tie2 : Tryz.prog.laidByTextLater [("postil/leaf.kinds", Rows.laid_postil_leaf_kinds), ("postil/chart.checks", Rows.laid_postil_chart_checks)] [.funcs, .funcs] true :=
  Program.laidByTextLater.sub seatTie1 ["postil/leaf.kinds", "postil/chart.checks"] (by kernel_rfl) (by kernel_rfl)
theorem chartCopies_row_tie : Rows.chartCopiesRow.laidByTextAt .later Tryz.pinned [.funcs, .funcs] true :=
  OpenClaim.laidByTextAt_later rfl rfl tie2 noOwnUnsafe
theorem chartExamplesUpto_row_tie : Rows.chartExamplesUptoRow.laidByTextAt .later Tryz.pinned [.funcs] true :=
  OpenClaim.laidByTextAt_later rfl rfl tie noOwnUnsafe
theorem chartNearestUpto_row_tie : Rows.chartNearestUptoRow.laidByTextAt .later Tryz.pinned [.funcs] true :=
  OpenClaim.laidByTextAt_later rfl rfl tie noOwnUnsafe
theorem chartCopiesUpto_row_tie : Rows.chartCopiesUptoRow.laidByTextAt .later Tryz.pinned [.funcs, .funcs] true :=
  OpenClaim.laidByTextAt_later rfl rfl tie2 noOwnUnsafe
end Go.Proofs.YtjjklfgpffgnfabGreatDoor
