/-
  DERIVED. GIVEN WITH THE SEED: THE CARDS: each row of YtjjklfgpffgnfabGreatDoorRows.lean that lists a variable, with what it lists TIED to the program's text (the seventh form; the later family's looks); each row that meets fmt, with fmt's text TOLD by the authors' own Lean function (tested against real Go, not proved from fmt's source: count such statements apart). THE CARD IS WHAT COUNTS. Prove the row's statement (the work); the ties are given (YtjjklfgpffgnfabGreatDoorTie.lean); close each card by the builder's one call (the guide's Derived/Test/ToyasCard.lean, 'card_holds'). Laid BY PROGRAM, IN A SANDBOX (cutbox-door.mjs). By AI agents, Wed Nov 11 2026. No macro, syntax, notation, axiom, sorry.
-/
import Derived.Test.YtjjklfgpffgnfabGreatDoorRows
import GoSem.ClaimSeven
namespace Go.Proofs.YtjjklfgpffgnfabGreatDoor
namespace Rows

/-- THE TIED CARD OF 'postillaw02.ChartExamples'. -/
def chartExamplesCard : Claim7 := { stood := { row := chartExamplesRow, standIns := [], harness := (true, "5f47e49d384ee7802e021654287d2e6051e106ffa40cafbc4adc27ca82f28d26"), looks := false }, kinds := [], alts := [], laidByText := true, laidKinds := [.funcs], laidTests := true, laidLooks := .later }
def ChartExamplesCardSaid : Prop := Claim7.holds Tryz.pinned (.plain (OpenSpec.ofChange chartExamplesSpec)) chartExamplesCard

/-- THE TIED CARD OF 'postillaw02.ChartNearest'. -/
def chartNearestCard : Claim7 := { stood := { row := chartNearestRow, standIns := [], harness := (true, "5f47e49d384ee7802e021654287d2e6051e106ffa40cafbc4adc27ca82f28d26"), looks := false }, kinds := [], alts := [], laidByText := true, laidKinds := [.funcs], laidTests := true, laidLooks := .later }
def ChartNearestCardSaid : Prop := Claim7.holds Tryz.pinned (.plain (OpenSpec.ofChange chartNearestSpec)) chartNearestCard

/-- THE TIED CARD OF 'postillaw02.ChartCopies'. -/
def chartCopiesCard : Claim7 := { stood := { row := chartCopiesRow, standIns := [], harness := (true, "5f47e49d384ee7802e021654287d2e6051e106ffa40cafbc4adc27ca82f28d26"), looks := false }, kinds := [], alts := [], laidByText := true, laidKinds := [.funcs, .funcs], laidTests := true, laidLooks := .later }
def ChartCopiesCardSaid : Prop := Claim7.holds Tryz.pinned (.plain (OpenSpec.ofChange chartCopiesSpec)) chartCopiesCard

/-- THE SECOND FORM's CARD OF 'postillaw02.ChartExamples'. -/
def chartExamplesUptoCard : Claim7 := { stood := { row := chartExamplesUptoRow, standIns := [], harness := (true, "5f47e49d384ee7802e021654287d2e6051e106ffa40cafbc4adc27ca82f28d26"), looks := false }, kinds := [], alts := [], laidByText := true, laidKinds := [.funcs], laidTests := true, laidLooks := .later }
def ChartExamplesUptoCardSaid : Prop := Claim7.holds Tryz.pinned (.plain (OpenSpec.upto chartExamplesSpec)) chartExamplesUptoCard

/-- THE SECOND FORM's CARD OF 'postillaw02.ChartNearest'. -/
def chartNearestUptoCard : Claim7 := { stood := { row := chartNearestUptoRow, standIns := [], harness := (true, "5f47e49d384ee7802e021654287d2e6051e106ffa40cafbc4adc27ca82f28d26"), looks := false }, kinds := [], alts := [], laidByText := true, laidKinds := [.funcs], laidTests := true, laidLooks := .later }
def ChartNearestUptoCardSaid : Prop := Claim7.holds Tryz.pinned (.plain (OpenSpec.upto chartNearestSpec)) chartNearestUptoCard

/-- THE SECOND FORM's CARD OF 'postillaw02.ChartCopies'. -/
def chartCopiesUptoCard : Claim7 := { stood := { row := chartCopiesUptoRow, standIns := [], harness := (true, "5f47e49d384ee7802e021654287d2e6051e106ffa40cafbc4adc27ca82f28d26"), looks := false }, kinds := [], alts := [], laidByText := true, laidKinds := [.funcs, .funcs], laidTests := true, laidLooks := .later }
def ChartCopiesUptoCardSaid : Prop := Claim7.holds Tryz.pinned (.plain (OpenSpec.upto chartCopiesSpec)) chartCopiesUptoCard
end Rows
end Go.Proofs.YtjjklfgpffgnfabGreatDoor
