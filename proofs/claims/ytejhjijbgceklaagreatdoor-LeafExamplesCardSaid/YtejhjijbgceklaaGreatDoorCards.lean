/-
  DERIVED. GIVEN WITH THE SEED: THE CARDS: each row of YtejhjijbgceklaaGreatDoorRows.lean that lists a variable, with what it lists TIED to the program's text (the seventh form; the later family's looks); each row that meets fmt, with fmt's text TOLD by the authors' own Lean function (tested against real Go, not proved from fmt's source: count such statements apart). THE CARD IS WHAT COUNTS. Prove the row's statement (the work); the ties are given (YtejhjijbgceklaaGreatDoorTie.lean); close each card by the builder's one call (the guide's Derived/Test/ToyasCard.lean, 'card_holds'). Laid BY PROGRAM, IN A SANDBOX (cutbox-door.mjs). By AI agents, Wed Nov 11 2026. No macro, syntax, notation, axiom, sorry.
-/
import Derived.Test.YtejhjijbgceklaaGreatDoorRows
import GoSem.ClaimSeven
namespace Go.Proofs.YtejhjijbgceklaaGreatDoor
namespace Rows

/-- THE TIED CARD OF 'postillaw01.LeafFewest'. -/
def leafFewestCard : Claim7 := { stood := { row := leafFewestRow, standIns := [], harness := (true, "a75f50060f3ea4afc8d491bf849833018d3b54a0bcfbc99b2c2034d1a2f3c82d"), looks := false }, kinds := [], alts := [], laidByText := true, laidKinds := [.funcs], laidTests := true, laidLooks := .later }
def LeafFewestCardSaid : Prop := Claim7.holds Tryz.pinned (.plain (OpenSpec.ofChange leafFewestSpec)) leafFewestCard

/-- THE TIED CARD OF 'postillaw01.LeafApart'. -/
def leafApartCard : Claim7 := { stood := { row := leafApartRow, standIns := [], harness := (true, "a75f50060f3ea4afc8d491bf849833018d3b54a0bcfbc99b2c2034d1a2f3c82d"), looks := false }, kinds := [], alts := [], laidByText := true, laidKinds := [.funcs], laidTests := true, laidLooks := .later }
def LeafApartCardSaid : Prop := Claim7.holds Tryz.pinned (.plain (OpenSpec.ofChange leafApartSpec)) leafApartCard

/-- THE TIED CARD OF 'postillaw01.LeafStands'. -/
def leafStandsCard : Claim7 := { stood := { row := leafStandsRow, standIns := [], harness := (true, "a75f50060f3ea4afc8d491bf849833018d3b54a0bcfbc99b2c2034d1a2f3c82d"), looks := false }, kinds := [], alts := [], laidByText := true, laidKinds := [.funcs], laidTests := true, laidLooks := .later }
def LeafStandsCardSaid : Prop := Claim7.holds Tryz.pinned (.plain (OpenSpec.ofChange leafStandsSpec)) leafStandsCard

/-- THE TIED CARD OF 'postillaw01.LeafDoubt'. -/
def leafDoubtCard : Claim7 := { stood := { row := leafDoubtRow, standIns := [], harness := (true, "a75f50060f3ea4afc8d491bf849833018d3b54a0bcfbc99b2c2034d1a2f3c82d"), looks := false }, kinds := [], alts := [], laidByText := true, laidKinds := [.funcs], laidTests := true, laidLooks := .later }
def LeafDoubtCardSaid : Prop := Claim7.holds Tryz.pinned (.plain (OpenSpec.ofChange leafDoubtSpec)) leafDoubtCard

/-- THE TIED CARD OF 'postillaw01.LeafExamples'. -/
def leafExamplesCard : Claim7 := { stood := { row := leafExamplesRow, standIns := [], harness := (true, "a75f50060f3ea4afc8d491bf849833018d3b54a0bcfbc99b2c2034d1a2f3c82d"), looks := false }, kinds := [], alts := [], laidByText := true, laidKinds := [.data, .data, .data, .funcs], laidTests := true, laidLooks := .later }
def LeafExamplesCardSaid : Prop := Claim7.holds Tryz.pinned (.plain (OpenSpec.ofChange leafExamplesSpec)) leafExamplesCard

/-- THE SECOND FORM's CARD OF 'postillaw01.LeafFewest'. -/
def leafFewestUptoCard : Claim7 := { stood := { row := leafFewestUptoRow, standIns := [], harness := (true, "a75f50060f3ea4afc8d491bf849833018d3b54a0bcfbc99b2c2034d1a2f3c82d"), looks := false }, kinds := [], alts := [], laidByText := true, laidKinds := [.funcs], laidTests := true, laidLooks := .later }
def LeafFewestUptoCardSaid : Prop := Claim7.holds Tryz.pinned (.plain (OpenSpec.upto leafFewestSpec)) leafFewestUptoCard

/-- THE SECOND FORM's CARD OF 'postillaw01.LeafApart'. -/
def leafApartUptoCard : Claim7 := { stood := { row := leafApartUptoRow, standIns := [], harness := (true, "a75f50060f3ea4afc8d491bf849833018d3b54a0bcfbc99b2c2034d1a2f3c82d"), looks := false }, kinds := [], alts := [], laidByText := true, laidKinds := [.funcs], laidTests := true, laidLooks := .later }
def LeafApartUptoCardSaid : Prop := Claim7.holds Tryz.pinned (.plain (OpenSpec.upto leafApartSpec)) leafApartUptoCard

/-- THE SECOND FORM's CARD OF 'postillaw01.LeafStands'. -/
def leafStandsUptoCard : Claim7 := { stood := { row := leafStandsUptoRow, standIns := [], harness := (true, "a75f50060f3ea4afc8d491bf849833018d3b54a0bcfbc99b2c2034d1a2f3c82d"), looks := false }, kinds := [], alts := [], laidByText := true, laidKinds := [.funcs], laidTests := true, laidLooks := .later }
def LeafStandsUptoCardSaid : Prop := Claim7.holds Tryz.pinned (.plain (OpenSpec.upto leafStandsSpec)) leafStandsUptoCard

/-- THE SECOND FORM's CARD OF 'postillaw01.LeafDoubt'. -/
def leafDoubtUptoCard : Claim7 := { stood := { row := leafDoubtUptoRow, standIns := [], harness := (true, "a75f50060f3ea4afc8d491bf849833018d3b54a0bcfbc99b2c2034d1a2f3c82d"), looks := false }, kinds := [], alts := [], laidByText := true, laidKinds := [.funcs], laidTests := true, laidLooks := .later }
def LeafDoubtUptoCardSaid : Prop := Claim7.holds Tryz.pinned (.plain (OpenSpec.upto leafDoubtSpec)) leafDoubtUptoCard

/-- THE SECOND FORM's CARD OF 'postillaw01.LeafExamples'. -/
def leafExamplesUptoCard : Claim7 := { stood := { row := leafExamplesUptoRow, standIns := [], harness := (true, "a75f50060f3ea4afc8d491bf849833018d3b54a0bcfbc99b2c2034d1a2f3c82d"), looks := false }, kinds := [], alts := [], laidByText := true, laidKinds := [.data, .data, .data, .funcs], laidTests := true, laidLooks := .later }
def LeafExamplesUptoCardSaid : Prop := Claim7.holds Tryz.pinned (.plain (OpenSpec.upto leafExamplesSpec)) leafExamplesUptoCard
end Rows
end Go.Proofs.YtejhjijbgceklaaGreatDoor
