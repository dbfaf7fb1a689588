/-
  DERIVED. GIVEN WITH THE SEED: THE CARDS: each row of YtjjklfgpffgnfaaDoorRows.lean that lists a variable, with what it lists TIED to the program's text (the seventh form; the later family's looks); each row that meets fmt, with fmt's text TOLD by the authors' own Lean function (tested against real Go, not proved from fmt's source: count such statements apart). THE CARD IS WHAT COUNTS. Prove the row's statement (the work); the ties are given (YtjjklfgpffgnfaaDoorTie.lean); close each card by the builder's one call (the guide's Derived/Test/ToyasCard.lean, 'card_holds'). Laid BY PROGRAM, IN A SANDBOX (cutbox-door.mjs). By AI agents, Wed Nov 11 2026. No macro, syntax, notation, axiom, sorry.
-/
import Derived.Test.YtjjklfgpffgnfaaDoorRows
import GoSem.ClaimSeven
namespace Go.Proofs.YtjjklfgpffgnfaaDoor
namespace Rows

/-- THE TIED CARD OF 'postillaw02.ChartTells'. -/
def chartTellsCard : Claim7 := { stood := { row := chartTellsRow, standIns := [], harness := (true, "0dd7738fe848762d4a82470b83ffb91ed139f71147878481def25b44639ec2e5"), looks := false }, kinds := [], alts := [], laidByText := true, laidKinds := [.funcs], laidTests := true, laidLooks := .later }
def ChartTellsCardSaid : Prop := Claim7.holds Tryd.pinned (.plain (OpenSpec.ofChange chartTellsSpec)) chartTellsCard

/-- THE TIED CARD OF 'postillaw02.ChartChanges'. -/
def chartChangesCard : Claim7 := { stood := { row := chartChangesRow, standIns := [], harness := (true, "0dd7738fe848762d4a82470b83ffb91ed139f71147878481def25b44639ec2e5"), looks := false }, kinds := [], alts := [], laidByText := true, laidKinds := [.funcs], laidTests := true, laidLooks := .later }
def ChartChangesCardSaid : Prop := Claim7.holds Tryd.pinned (.plain (OpenSpec.ofChange chartChangesSpec)) chartChangesCard

/-- THE TIED CARD OF 'postillaw02.ChartRefers'. -/
def chartRefersCard : Claim7 := { stood := { row := chartRefersRow, standIns := [], harness := (true, "0dd7738fe848762d4a82470b83ffb91ed139f71147878481def25b44639ec2e5"), looks := false }, kinds := [], alts := [], laidByText := true, laidKinds := [.funcs], laidTests := true, laidLooks := .later }
def ChartRefersCardSaid : Prop := Claim7.holds Tryd.pinned (.plain (OpenSpec.ofChange chartRefersSpec)) chartRefersCard

/-- THE TIED CARD OF 'postillaw02.ChartNears'. -/
def chartNearsCard : Claim7 := { stood := { row := chartNearsRow, standIns := [], harness := (true, "0dd7738fe848762d4a82470b83ffb91ed139f71147878481def25b44639ec2e5"), looks := false }, kinds := [], alts := [], laidByText := true, laidKinds := [.funcs], laidTests := true, laidLooks := .later }
def ChartNearsCardSaid : Prop := Claim7.holds Tryd.pinned (.plain (OpenSpec.ofChange chartNearsSpec)) chartNearsCard

/-- THE SECOND FORM's CARD OF 'postillaw02.ChartTells'. -/
def chartTellsUptoCard : Claim7 := { stood := { row := chartTellsUptoRow, standIns := [], harness := (true, "0dd7738fe848762d4a82470b83ffb91ed139f71147878481def25b44639ec2e5"), looks := false }, kinds := [], alts := [], laidByText := true, laidKinds := [.funcs], laidTests := true, laidLooks := .later }
def ChartTellsUptoCardSaid : Prop := Claim7.holds Tryd.pinned (.plain (OpenSpec.upto chartTellsSpec)) chartTellsUptoCard

/-- THE SECOND FORM's CARD OF 'postillaw02.ChartChanges'. -/
def chartChangesUptoCard : Claim7 := { stood := { row := chartChangesUptoRow, standIns := [], harness := (true, "0dd7738fe848762d4a82470b83ffb91ed139f71147878481def25b44639ec2e5"), looks := false }, kinds := [], alts := [], laidByText := true, laidKinds := [.funcs], laidTests := true, laidLooks := .later }
def ChartChangesUptoCardSaid : Prop := Claim7.holds Tryd.pinned (.plain (OpenSpec.upto chartChangesSpec)) chartChangesUptoCard

/-- THE SECOND FORM's CARD OF 'postillaw02.ChartRefers'. -/
def chartRefersUptoCard : Claim7 := { stood := { row := chartRefersUptoRow, standIns := [], harness := (true, "0dd7738fe848762d4a82470b83ffb91ed139f71147878481def25b44639ec2e5"), looks := false }, kinds := [], alts := [], laidByText := true, laidKinds := [.funcs], laidTests := true, laidLooks := .later }
def ChartRefersUptoCardSaid : Prop := Claim7.holds Tryd.pinned (.plain (OpenSpec.upto chartRefersSpec)) chartRefersUptoCard

/-- THE SECOND FORM's CARD OF 'postillaw02.ChartNears'. -/
def chartNearsUptoCard : Claim7 := { stood := { row := chartNearsUptoRow, standIns := [], harness := (true, "0dd7738fe848762d4a82470b83ffb91ed139f71147878481def25b44639ec2e5"), looks := false }, kinds := [], alts := [], laidByText := true, laidKinds := [.funcs], laidTests := true, laidLooks := .later }
def ChartNearsUptoCardSaid : Prop := Claim7.holds Tryd.pinned (.plain (OpenSpec.upto chartNearsSpec)) chartNearsUptoCard
end Rows
end Go.Proofs.YtjjklfgpffgnfaaDoor
