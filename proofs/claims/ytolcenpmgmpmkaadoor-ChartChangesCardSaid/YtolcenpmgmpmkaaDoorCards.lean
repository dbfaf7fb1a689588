/-
  DERIVED. GIVEN WITH THE SEED: THE CARDS: each row of YtolcenpmgmpmkaaDoorRows.lean that lists a variable, with what it lists TIED to the program's text (the seventh form; the later family's looks); each row that meets fmt, with fmt's text TOLD by the authors' own Lean function (tested against real Go, not proved from fmt's source: count such statements apart). THE CARD IS WHAT COUNTS. Prove the row's statement (the work); the ties are given (YtolcenpmgmpmkaaDoorTie.lean); close each card by the builder's one call (the guide's Derived/Test/ToyasCard.lean, 'card_holds'). Laid BY PROGRAM, IN A SANDBOX (cutbox-door.mjs). By AI agents, Wed Nov 11 2026. No macro, syntax, notation, axiom, sorry.
-/
import Derived.Test.YtolcenpmgmpmkaaDoorRows
import GoSem.ClaimSeven
namespace Go.Proofs.YtolcenpmgmpmkaaDoor
namespace Rows

/-- THE TIED CARD OF 'postillaw02.ChartTells'. -/
def chartTellsCard : Claim7 := { stood := { row := chartTellsRow, standIns := [], harness := (true, "f94a01fc2be829cce9c1b71dffc76da2cac90c5f3ade84f61e8a993e6bceb8ec"), looks := false }, kinds := [], alts := [], laidByText := true, laidKinds := [.funcs], laidTests := true, laidLooks := .later }
def ChartTellsCardSaid : Prop := Claim7.holds Tryd.pinned (.plain (OpenSpec.ofChange chartTellsSpec)) chartTellsCard

/-- THE TIED CARD OF 'postillaw02.ChartChanges'. -/
def chartChangesCard : Claim7 := { stood := { row := chartChangesRow, standIns := [], harness := (true, "f94a01fc2be829cce9c1b71dffc76da2cac90c5f3ade84f61e8a993e6bceb8ec"), looks := false }, kinds := [], alts := [], laidByText := true, laidKinds := [.funcs], laidTests := true, laidLooks := .later }
def ChartChangesCardSaid : Prop := Claim7.holds Tryd.pinned (.plain (OpenSpec.ofChange chartChangesSpec)) chartChangesCard

/-- THE TIED CARD OF 'postillaw01.LeafCopies'. -/
def leafCopiesCard : Claim7 := { stood := { row := leafCopiesRow, standIns := [], harness := (true, "f94a01fc2be829cce9c1b71dffc76da2cac90c5f3ade84f61e8a993e6bceb8ec"), looks := false }, kinds := [], alts := [], laidByText := true, laidKinds := [.funcs], laidTests := true, laidLooks := .later }
def LeafCopiesCardSaid : Prop := Claim7.holds Tryd.pinned (.plain (OpenSpec.ofChange leafCopiesSpec)) leafCopiesCard

/-- THE TIED CARD OF 'postillaw09.ProofTells'. -/
def proofTellsCard : Claim7 := { stood := { row := proofTellsRow, standIns := [], harness := (true, "f94a01fc2be829cce9c1b71dffc76da2cac90c5f3ade84f61e8a993e6bceb8ec"), looks := false }, kinds := [], alts := [], laidByText := true, laidKinds := [.funcs], laidTests := true, laidLooks := .later }
def ProofTellsCardSaid : Prop := Claim7.holds Tryd.pinned (.plain (OpenSpec.ofChange proofTellsSpec)) proofTellsCard

/-- THE TIED CARD OF 'postillaw02.ChartRefers'. -/
def chartRefersCard : Claim7 := { stood := { row := chartRefersRow, standIns := [], harness := (true, "f94a01fc2be829cce9c1b71dffc76da2cac90c5f3ade84f61e8a993e6bceb8ec"), looks := false }, kinds := [], alts := [], laidByText := true, laidKinds := [.funcs], laidTests := true, laidLooks := .later }
def ChartRefersCardSaid : Prop := Claim7.holds Tryd.pinned (.plain (OpenSpec.ofChange chartRefersSpec)) chartRefersCard

/-- THE TIED CARD OF 'postillaw02.ChartNears'. -/
def chartNearsCard : Claim7 := { stood := { row := chartNearsRow, standIns := [], harness := (true, "f94a01fc2be829cce9c1b71dffc76da2cac90c5f3ade84f61e8a993e6bceb8ec"), looks := false }, kinds := [], alts := [], laidByText := true, laidKinds := [.funcs], laidTests := true, laidLooks := .later }
def ChartNearsCardSaid : Prop := Claim7.holds Tryd.pinned (.plain (OpenSpec.ofChange chartNearsSpec)) chartNearsCard

/-- THE TIED CARD OF 'postillaw09.ProofChiefs'. -/
def proofChiefsCard : Claim7 := { stood := { row := proofChiefsRow, standIns := [], harness := (true, "f94a01fc2be829cce9c1b71dffc76da2cac90c5f3ade84f61e8a993e6bceb8ec"), looks := false }, kinds := [], alts := [], laidByText := true, laidKinds := [.funcs], laidTests := true, laidLooks := .later }
def ProofChiefsCardSaid : Prop := Claim7.holds Tryd.pinned (.plain (OpenSpec.ofChange proofChiefsSpec)) proofChiefsCard

/-- THE SECOND FORM's CARD OF 'postillaw02.ChartTells'. -/
def chartTellsUptoCard : Claim7 := { stood := { row := chartTellsUptoRow, standIns := [], harness := (true, "f94a01fc2be829cce9c1b71dffc76da2cac90c5f3ade84f61e8a993e6bceb8ec"), looks := false }, kinds := [], alts := [], laidByText := true, laidKinds := [.funcs], laidTests := true, laidLooks := .later }
def ChartTellsUptoCardSaid : Prop := Claim7.holds Tryd.pinned (.plain (OpenSpec.upto chartTellsSpec)) chartTellsUptoCard

/-- THE SECOND FORM's CARD OF 'postillaw02.ChartChanges'. -/
def chartChangesUptoCard : Claim7 := { stood := { row := chartChangesUptoRow, standIns := [], harness := (true, "f94a01fc2be829cce9c1b71dffc76da2cac90c5f3ade84f61e8a993e6bceb8ec"), looks := false }, kinds := [], alts := [], laidByText := true, laidKinds := [.funcs], laidTests := true, laidLooks := .later }
def ChartChangesUptoCardSaid : Prop := Claim7.holds Tryd.pinned (.plain (OpenSpec.upto chartChangesSpec)) chartChangesUptoCard

/-- THE SECOND FORM's CARD OF 'postillaw01.LeafCopies'. -/
def leafCopiesUptoCard : Claim7 := { stood := { row := leafCopiesUptoRow, standIns := [], harness := (true, "f94a01fc2be829cce9c1b71dffc76da2cac90c5f3ade84f61e8a993e6bceb8ec"), looks := false }, kinds := [], alts := [], laidByText := true, laidKinds := [.funcs], laidTests := true, laidLooks := .later }
def LeafCopiesUptoCardSaid : Prop := Claim7.holds Tryd.pinned (.plain (OpenSpec.upto leafCopiesSpec)) leafCopiesUptoCard

/-- THE SECOND FORM's CARD OF 'postillaw09.ProofTells'. -/
def proofTellsUptoCard : Claim7 := { stood := { row := proofTellsUptoRow, standIns := [], harness := (true, "f94a01fc2be829cce9c1b71dffc76da2cac90c5f3ade84f61e8a993e6bceb8ec"), looks := false }, kinds := [], alts := [], laidByText := true, laidKinds := [.funcs], laidTests := true, laidLooks := .later }
def ProofTellsUptoCardSaid : Prop := Claim7.holds Tryd.pinned (.plain (OpenSpec.upto proofTellsSpec)) proofTellsUptoCard

/-- THE SECOND FORM's CARD OF 'postillaw02.ChartRefers'. -/
def chartRefersUptoCard : Claim7 := { stood := { row := chartRefersUptoRow, standIns := [], harness := (true, "f94a01fc2be829cce9c1b71dffc76da2cac90c5f3ade84f61e8a993e6bceb8ec"), looks := false }, kinds := [], alts := [], laidByText := true, laidKinds := [.funcs], laidTests := true, laidLooks := .later }
def ChartRefersUptoCardSaid : Prop := Claim7.holds Tryd.pinned (.plain (OpenSpec.upto chartRefersSpec)) chartRefersUptoCard

/-- THE SECOND FORM's CARD OF 'postillaw02.ChartNears'. -/
def chartNearsUptoCard : Claim7 := { stood := { row := chartNearsUptoRow, standIns := [], harness := (true, "f94a01fc2be829cce9c1b71dffc76da2cac90c5f3ade84f61e8a993e6bceb8ec"), looks := false }, kinds := [], alts := [], laidByText := true, laidKinds := [.funcs], laidTests := true, laidLooks := .later }
def ChartNearsUptoCardSaid : Prop := Claim7.holds Tryd.pinned (.plain (OpenSpec.upto chartNearsSpec)) chartNearsUptoCard

/-- THE SECOND FORM's CARD OF 'postillaw09.ProofChiefs'. -/
def proofChiefsUptoCard : Claim7 := { stood := { row := proofChiefsUptoRow, standIns := [], harness := (true, "f94a01fc2be829cce9c1b71dffc76da2cac90c5f3ade84f61e8a993e6bceb8ec"), looks := false }, kinds := [], alts := [], laidByText := true, laidKinds := [.funcs], laidTests := true, laidLooks := .later }
def ProofChiefsUptoCardSaid : Prop := Claim7.holds Tryd.pinned (.plain (OpenSpec.upto proofChiefsSpec)) proofChiefsUptoCard
end Rows
end Go.Proofs.YtolcenpmgmpmkaaDoor
