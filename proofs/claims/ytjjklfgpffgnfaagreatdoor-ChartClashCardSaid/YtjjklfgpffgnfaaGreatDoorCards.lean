/-
  DERIVED. GIVEN WITH THE SEED: THE CARDS: each row of YtjjklfgpffgnfaaGreatDoorRows.lean that lists a variable, with what it lists TIED to the program's text (the seventh form; the later family's looks); each row that meets fmt, with fmt's text TOLD by the authors' own Lean function (tested against real Go, not proved from fmt's source: count such statements apart). THE CARD IS WHAT COUNTS. Prove the row's statement (the work); the ties are given (YtjjklfgpffgnfaaGreatDoorTie.lean); close each card by the builder's one call (the guide's Derived/Test/ToyasCard.lean, 'card_holds'). Laid BY PROGRAM, IN A SANDBOX (cutbox-door.mjs). By AI agents, Wed Nov 11 2026. No macro, syntax, notation, axiom, sorry.
-/
import Derived.Test.YtjjklfgpffgnfaaGreatDoorRows
import GoSem.ClaimSeven
namespace Go.Proofs.YtjjklfgpffgnfaaGreatDoor
namespace Rows

/-- THE TIED CARD OF 'postillaw02.ChartBack'. -/
def chartBackCard : Claim7 := { stood := { row := chartBackRow, standIns := [], harness := (true, "08c3a887cccc54e0439af49e78ce2f14fabe36b1a149a1d88b07c65b7caaf1c7"), looks := false }, kinds := [], alts := [], laidByText := true, laidKinds := [.funcs], laidTests := true, laidLooks := .later }
def ChartBackCardSaid : Prop := Claim7.holds Tryz.pinned (.plain (OpenSpec.ofChange chartBackSpec)) chartBackCard

/-- THE TIED CARD OF 'postillaw02.ChartGaps'. -/
def chartGapsCard : Claim7 := { stood := { row := chartGapsRow, standIns := [], harness := (true, "08c3a887cccc54e0439af49e78ce2f14fabe36b1a149a1d88b07c65b7caaf1c7"), looks := false }, kinds := [], alts := [], laidByText := true, laidKinds := [.funcs], laidTests := true, laidLooks := .later }
def ChartGapsCardSaid : Prop := Claim7.holds Tryz.pinned (.plain (OpenSpec.ofChange chartGapsSpec)) chartGapsCard

/-- THE TIED CARD OF 'postillaw02.ChartClosest'. -/
def chartClosestCard : Claim7 := { stood := { row := chartClosestRow, standIns := [], harness := (true, "08c3a887cccc54e0439af49e78ce2f14fabe36b1a149a1d88b07c65b7caaf1c7"), looks := false }, kinds := [], alts := [], laidByText := true, laidKinds := [.funcs], laidTests := true, laidLooks := .later }
def ChartClosestCardSaid : Prop := Claim7.holds Tryz.pinned (.plain (OpenSpec.ofChange chartClosestSpec)) chartClosestCard

/-- THE TIED CARD OF 'postillaw02.ChartCross'. -/
def chartCrossCard : Claim7 := { stood := { row := chartCrossRow, standIns := [], harness := (true, "08c3a887cccc54e0439af49e78ce2f14fabe36b1a149a1d88b07c65b7caaf1c7"), looks := false }, kinds := [], alts := [], laidByText := true, laidKinds := [.funcs], laidTests := true, laidLooks := .later }
def ChartCrossCardSaid : Prop := Claim7.holds Tryz.pinned (.plain (OpenSpec.ofChange chartCrossSpec)) chartCrossCard

/-- THE TIED CARD OF 'postillaw02.ChartChain'. -/
def chartChainCard : Claim7 := { stood := { row := chartChainRow, standIns := [], harness := (true, "08c3a887cccc54e0439af49e78ce2f14fabe36b1a149a1d88b07c65b7caaf1c7"), looks := false }, kinds := [], alts := [], laidByText := true, laidKinds := [.funcs], laidTests := true, laidLooks := .later }
def ChartChainCardSaid : Prop := Claim7.holds Tryz.pinned (.plain (OpenSpec.ofChange chartChainSpec)) chartChainCard

/-- THE TIED CARD OF 'postillaw02.ChartJoin'. -/
def chartJoinCard : Claim7 := { stood := { row := chartJoinRow, standIns := [], harness := (true, "08c3a887cccc54e0439af49e78ce2f14fabe36b1a149a1d88b07c65b7caaf1c7"), looks := false }, kinds := [], alts := [], laidByText := true, laidKinds := [.funcs], laidTests := true, laidLooks := .later }
def ChartJoinCardSaid : Prop := Claim7.holds Tryz.pinned (.plain (OpenSpec.ofChange chartJoinSpec)) chartJoinCard

/-- THE TIED CARD OF 'postillaw02.ChartPlain'. -/
def chartPlainCard : Claim7 := { stood := { row := chartPlainRow, standIns := [], harness := (true, "08c3a887cccc54e0439af49e78ce2f14fabe36b1a149a1d88b07c65b7caaf1c7"), looks := false }, kinds := [], alts := [], laidByText := true, laidKinds := [.funcs], laidTests := true, laidLooks := .later }
def ChartPlainCardSaid : Prop := Claim7.holds Tryz.pinned (.plain (OpenSpec.ofChange chartPlainSpec)) chartPlainCard

/-- THE TIED CARD OF 'postillaw02.ChartSplit'. -/
def chartSplitCard : Claim7 := { stood := { row := chartSplitRow, standIns := [], harness := (true, "08c3a887cccc54e0439af49e78ce2f14fabe36b1a149a1d88b07c65b7caaf1c7"), looks := false }, kinds := [], alts := [], laidByText := true, laidKinds := [.funcs], laidTests := true, laidLooks := .later }
def ChartSplitCardSaid : Prop := Claim7.holds Tryz.pinned (.plain (OpenSpec.ofChange chartSplitSpec)) chartSplitCard

/-- THE TIED CARD OF 'postillaw02.ChartClash'. -/
def chartClashCard : Claim7 := { stood := { row := chartClashRow, standIns := [], harness := (true, "08c3a887cccc54e0439af49e78ce2f14fabe36b1a149a1d88b07c65b7caaf1c7"), looks := false }, kinds := [], alts := [], laidByText := true, laidKinds := [.funcs], laidTests := true, laidLooks := .later }
def ChartClashCardSaid : Prop := Claim7.holds Tryz.pinned (.plain (OpenSpec.ofChange chartClashSpec)) chartClashCard

/-- THE SECOND FORM's CARD OF 'postillaw02.ChartBack'. -/
def chartBackUptoCard : Claim7 := { stood := { row := chartBackUptoRow, standIns := [], harness := (true, "08c3a887cccc54e0439af49e78ce2f14fabe36b1a149a1d88b07c65b7caaf1c7"), looks := false }, kinds := [], alts := [], laidByText := true, laidKinds := [.funcs], laidTests := true, laidLooks := .later }
def ChartBackUptoCardSaid : Prop := Claim7.holds Tryz.pinned (.plain (OpenSpec.upto chartBackSpec)) chartBackUptoCard

/-- THE SECOND FORM's CARD OF 'postillaw02.ChartGaps'. -/
def chartGapsUptoCard : Claim7 := { stood := { row := chartGapsUptoRow, standIns := [], harness := (true, "08c3a887cccc54e0439af49e78ce2f14fabe36b1a149a1d88b07c65b7caaf1c7"), looks := false }, kinds := [], alts := [], laidByText := true, laidKinds := [.funcs], laidTests := true, laidLooks := .later }
def ChartGapsUptoCardSaid : Prop := Claim7.holds Tryz.pinned (.plain (OpenSpec.upto chartGapsSpec)) chartGapsUptoCard

/-- THE SECOND FORM's CARD OF 'postillaw02.ChartClosest'. -/
def chartClosestUptoCard : Claim7 := { stood := { row := chartClosestUptoRow, standIns := [], harness := (true, "08c3a887cccc54e0439af49e78ce2f14fabe36b1a149a1d88b07c65b7caaf1c7"), looks := false }, kinds := [], alts := [], laidByText := true, laidKinds := [.funcs], laidTests := true, laidLooks := .later }
def ChartClosestUptoCardSaid : Prop := Claim7.holds Tryz.pinned (.plain (OpenSpec.upto chartClosestSpec)) chartClosestUptoCard

/-- THE SECOND FORM's CARD OF 'postillaw02.ChartCross'. -/
def chartCrossUptoCard : Claim7 := { stood := { row := chartCrossUptoRow, standIns := [], harness := (true, "08c3a887cccc54e0439af49e78ce2f14fabe36b1a149a1d88b07c65b7caaf1c7"), looks := false }, kinds := [], alts := [], laidByText := true, laidKinds := [.funcs], laidTests := true, laidLooks := .later }
def ChartCrossUptoCardSaid : Prop := Claim7.holds Tryz.pinned (.plain (OpenSpec.upto chartCrossSpec)) chartCrossUptoCard

/-- THE SECOND FORM's CARD OF 'postillaw02.ChartChain'. -/
def chartChainUptoCard : Claim7 := { stood := { row := chartChainUptoRow, standIns := [], harness := (true, "08c3a887cccc54e0439af49e78ce2f14fabe36b1a149a1d88b07c65b7caaf1c7"), looks := false }, kinds := [], alts := [], laidByText := true, laidKinds := [.funcs], laidTests := true, laidLooks := .later }
def ChartChainUptoCardSaid : Prop := Claim7.holds Tryz.pinned (.plain (OpenSpec.upto chartChainSpec)) chartChainUptoCard

/-- THE SECOND FORM's CARD OF 'postillaw02.ChartJoin'. -/
def chartJoinUptoCard : Claim7 := { stood := { row := chartJoinUptoRow, standIns := [], harness := (true, "08c3a887cccc54e0439af49e78ce2f14fabe36b1a149a1d88b07c65b7caaf1c7"), looks := false }, kinds := [], alts := [], laidByText := true, laidKinds := [.funcs], laidTests := true, laidLooks := .later }
def ChartJoinUptoCardSaid : Prop := Claim7.holds Tryz.pinned (.plain (OpenSpec.upto chartJoinSpec)) chartJoinUptoCard

/-- THE SECOND FORM's CARD OF 'postillaw02.ChartPlain'. -/
def chartPlainUptoCard : Claim7 := { stood := { row := chartPlainUptoRow, standIns := [], harness := (true, "08c3a887cccc54e0439af49e78ce2f14fabe36b1a149a1d88b07c65b7caaf1c7"), looks := false }, kinds := [], alts := [], laidByText := true, laidKinds := [.funcs], laidTests := true, laidLooks := .later }
def ChartPlainUptoCardSaid : Prop := Claim7.holds Tryz.pinned (.plain (OpenSpec.upto chartPlainSpec)) chartPlainUptoCard

/-- THE SECOND FORM's CARD OF 'postillaw02.ChartSplit'. -/
def chartSplitUptoCard : Claim7 := { stood := { row := chartSplitUptoRow, standIns := [], harness := (true, "08c3a887cccc54e0439af49e78ce2f14fabe36b1a149a1d88b07c65b7caaf1c7"), looks := false }, kinds := [], alts := [], laidByText := true, laidKinds := [.funcs], laidTests := true, laidLooks := .later }
def ChartSplitUptoCardSaid : Prop := Claim7.holds Tryz.pinned (.plain (OpenSpec.upto chartSplitSpec)) chartSplitUptoCard

/-- THE SECOND FORM's CARD OF 'postillaw02.ChartClash'. -/
def chartClashUptoCard : Claim7 := { stood := { row := chartClashUptoRow, standIns := [], harness := (true, "08c3a887cccc54e0439af49e78ce2f14fabe36b1a149a1d88b07c65b7caaf1c7"), looks := false }, kinds := [], alts := [], laidByText := true, laidKinds := [.funcs], laidTests := true, laidLooks := .later }
def ChartClashUptoCardSaid : Prop := Claim7.holds Tryz.pinned (.plain (OpenSpec.upto chartClashSpec)) chartClashUptoCard
end Rows
end Go.Proofs.YtjjklfgpffgnfaaGreatDoor
