/-
  DERIVED. GIVEN WITH THE SEED: THE CARDS: each row of YtbbdginipiljdaaDoorRows.lean that lists a variable, with what it lists TIED to the program's text (the seventh form; the later family's looks); each row that meets fmt, with fmt's text TOLD by the authors' own Lean function (tested against real Go, not proved from fmt's source: count such statements apart). THE CARD IS WHAT COUNTS. Prove the row's statement (the work); the ties are given (YtbbdginipiljdaaDoorTie.lean); close each card by the builder's one call (the guide's Derived/Test/ToyasCard.lean, 'card_holds'). Laid BY PROGRAM, IN A SANDBOX (cutbox-door.mjs). By AI agents, Wed Nov 11 2026. No macro, syntax, notation, axiom, sorry.
-/
import Derived.Test.YtbbdginipiljdaaDoorRows
import GoSem.ClaimSeven
namespace Go.Proofs.YtbbdginipiljdaaDoor
namespace Rows

/-- THE TIED CARD OF 'postillaw09.ProofTells'. -/
def proofTellsCard : Claim7 := { stood := { row := proofTellsRow, standIns := [], harness := (true, "cbe58fdf73025b5aa1c68558c7b059b910009db29414554790bd0f03f9d2c180"), looks := false }, kinds := [], alts := [], laidByText := true, laidKinds := [.funcs], laidTests := true, laidLooks := .later }
def ProofTellsCardSaid : Prop := Claim7.holds Tryd.pinned (.plain (OpenSpec.ofChange proofTellsSpec)) proofTellsCard

/-- THE TIED CARD OF 'postillaw09.ProofChiefs'. -/
def proofChiefsCard : Claim7 := { stood := { row := proofChiefsRow, standIns := [], harness := (true, "cbe58fdf73025b5aa1c68558c7b059b910009db29414554790bd0f03f9d2c180"), looks := false }, kinds := [], alts := [], laidByText := true, laidKinds := [.funcs], laidTests := true, laidLooks := .later }
def ProofChiefsCardSaid : Prop := Claim7.holds Tryd.pinned (.plain (OpenSpec.ofChange proofChiefsSpec)) proofChiefsCard

/-- THE TIED CARD OF 'postillaw09.ProofMiss'. -/
def proofMissCard : Claim7 := { stood := { row := proofMissRow, standIns := [], harness := (true, "cbe58fdf73025b5aa1c68558c7b059b910009db29414554790bd0f03f9d2c180"), looks := false }, kinds := [], alts := [], laidByText := true, laidKinds := [.funcs], laidTests := true, laidLooks := .later }
def ProofMissCardSaid : Prop := Claim7.holds Tryd.pinned (.plain (OpenSpec.ofChange proofMissSpec)) proofMissCard

/-- THE TIED CARD OF 'postillaw09.ProofApart'. -/
def proofApartCard : Claim7 := { stood := { row := proofApartRow, standIns := [], harness := (true, "cbe58fdf73025b5aa1c68558c7b059b910009db29414554790bd0f03f9d2c180"), looks := false }, kinds := [], alts := [], laidByText := true, laidKinds := [.funcs], laidTests := true, laidLooks := .later }
def ProofApartCardSaid : Prop := Claim7.holds Tryd.pinned (.plain (OpenSpec.ofChange proofApartSpec)) proofApartCard

/-- THE TIED CARD OF 'postillaw09.ProofSides'. -/
def proofSidesCard : Claim7 := { stood := { row := proofSidesRow, standIns := [], harness := (true, "cbe58fdf73025b5aa1c68558c7b059b910009db29414554790bd0f03f9d2c180"), looks := false }, kinds := [], alts := [], laidByText := true, laidKinds := [.funcs], laidTests := true, laidLooks := .later }
def ProofSidesCardSaid : Prop := Claim7.holds Tryd.pinned (.plain (OpenSpec.ofChange proofSidesSpec)) proofSidesCard

/-- THE TIED CARD OF 'postillaw09.ProofGuess'. -/
def proofGuessCard : Claim7 := { stood := { row := proofGuessRow, standIns := [], harness := (true, "cbe58fdf73025b5aa1c68558c7b059b910009db29414554790bd0f03f9d2c180"), looks := false }, kinds := [], alts := [], laidByText := true, laidKinds := [.funcs], laidTests := true, laidLooks := .later }
def ProofGuessCardSaid : Prop := Claim7.holds Tryd.pinned (.plain (OpenSpec.ofChange proofGuessSpec)) proofGuessCard

/-- THE TIED CARD OF 'postillaw09.ProofExamples'. -/
def proofExamplesCard : Claim7 := { stood := { row := proofExamplesRow, standIns := [], harness := (true, "cbe58fdf73025b5aa1c68558c7b059b910009db29414554790bd0f03f9d2c180"), looks := false }, kinds := [], alts := [], laidByText := true, laidKinds := [.funcs], laidTests := true, laidLooks := .later }
def ProofExamplesCardSaid : Prop := Claim7.holds Tryd.pinned (.plain (OpenSpec.ofChange proofExamplesSpec)) proofExamplesCard

/-- THE SECOND FORM's CARD OF 'postillaw09.ProofTells'. -/
def proofTellsUptoCard : Claim7 := { stood := { row := proofTellsUptoRow, standIns := [], harness := (true, "cbe58fdf73025b5aa1c68558c7b059b910009db29414554790bd0f03f9d2c180"), looks := false }, kinds := [], alts := [], laidByText := true, laidKinds := [.funcs], laidTests := true, laidLooks := .later }
def ProofTellsUptoCardSaid : Prop := Claim7.holds Tryd.pinned (.plain (OpenSpec.upto proofTellsSpec)) proofTellsUptoCard

/-- THE SECOND FORM's CARD OF 'postillaw09.ProofChiefs'. -/
def proofChiefsUptoCard : Claim7 := { stood := { row := proofChiefsUptoRow, standIns := [], harness := (true, "cbe58fdf73025b5aa1c68558c7b059b910009db29414554790bd0f03f9d2c180"), looks := false }, kinds := [], alts := [], laidByText := true, laidKinds := [.funcs], laidTests := true, laidLooks := .later }
def ProofChiefsUptoCardSaid : Prop := Claim7.holds Tryd.pinned (.plain (OpenSpec.upto proofChiefsSpec)) proofChiefsUptoCard

/-- THE SECOND FORM's CARD OF 'postillaw09.ProofMiss'. -/
def proofMissUptoCard : Claim7 := { stood := { row := proofMissUptoRow, standIns := [], harness := (true, "cbe58fdf73025b5aa1c68558c7b059b910009db29414554790bd0f03f9d2c180"), looks := false }, kinds := [], alts := [], laidByText := true, laidKinds := [.funcs], laidTests := true, laidLooks := .later }
def ProofMissUptoCardSaid : Prop := Claim7.holds Tryd.pinned (.plain (OpenSpec.upto proofMissSpec)) proofMissUptoCard

/-- THE SECOND FORM's CARD OF 'postillaw09.ProofApart'. -/
def proofApartUptoCard : Claim7 := { stood := { row := proofApartUptoRow, standIns := [], harness := (true, "cbe58fdf73025b5aa1c68558c7b059b910009db29414554790bd0f03f9d2c180"), looks := false }, kinds := [], alts := [], laidByText := true, laidKinds := [.funcs], laidTests := true, laidLooks := .later }
def ProofApartUptoCardSaid : Prop := Claim7.holds Tryd.pinned (.plain (OpenSpec.upto proofApartSpec)) proofApartUptoCard

/-- THE SECOND FORM's CARD OF 'postillaw09.ProofSides'. -/
def proofSidesUptoCard : Claim7 := { stood := { row := proofSidesUptoRow, standIns := [], harness := (true, "cbe58fdf73025b5aa1c68558c7b059b910009db29414554790bd0f03f9d2c180"), looks := false }, kinds := [], alts := [], laidByText := true, laidKinds := [.funcs], laidTests := true, laidLooks := .later }
def ProofSidesUptoCardSaid : Prop := Claim7.holds Tryd.pinned (.plain (OpenSpec.upto proofSidesSpec)) proofSidesUptoCard

/-- THE SECOND FORM's CARD OF 'postillaw09.ProofGuess'. -/
def proofGuessUptoCard : Claim7 := { stood := { row := proofGuessUptoRow, standIns := [], harness := (true, "cbe58fdf73025b5aa1c68558c7b059b910009db29414554790bd0f03f9d2c180"), looks := false }, kinds := [], alts := [], laidByText := true, laidKinds := [.funcs], laidTests := true, laidLooks := .later }
def ProofGuessUptoCardSaid : Prop := Claim7.holds Tryd.pinned (.plain (OpenSpec.upto proofGuessSpec)) proofGuessUptoCard

/-- THE SECOND FORM's CARD OF 'postillaw09.ProofExamples'. -/
def proofExamplesUptoCard : Claim7 := { stood := { row := proofExamplesUptoRow, standIns := [], harness := (true, "cbe58fdf73025b5aa1c68558c7b059b910009db29414554790bd0f03f9d2c180"), looks := false }, kinds := [], alts := [], laidByText := true, laidKinds := [.funcs], laidTests := true, laidLooks := .later }
def ProofExamplesUptoCardSaid : Prop := Claim7.holds Tryd.pinned (.plain (OpenSpec.upto proofExamplesSpec)) proofExamplesUptoCard
end Rows
end Go.Proofs.YtbbdginipiljdaaDoor
