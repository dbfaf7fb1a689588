/-
  DERIVED. GIVEN WITH THE SEED: THE CARDS: each row of YtbbdginipiljdaaGreatDoorRows.lean that lists a variable, with what it lists TIED to the program's text (the seventh form; the later family's looks); each row that meets fmt, with fmt's text TOLD by the authors' own Lean function (tested against real Go, not proved from fmt's source: count such statements apart). THE CARD IS WHAT COUNTS. Prove the row's statement (the work); the ties are given (YtbbdginipiljdaaGreatDoorTie.lean); close each card by the builder's one call (the guide's Derived/Test/ToyasCard.lean, 'card_holds'). Laid BY PROGRAM, IN A SANDBOX (cutbox-door.mjs). By AI agents, Wed Nov 11 2026. No macro, syntax, notation, axiom, sorry.
-/
import Derived.Test.YtbbdginipiljdaaGreatDoorRows
import GoSem.ClaimSeven
namespace Go.Proofs.YtbbdginipiljdaaGreatDoor
namespace Rows

/-- THE TIED CARD OF 'postillaw09.ProofLeaves'. -/
def proofLeavesCard : Claim7 := { stood := { row := proofLeavesRow, standIns := [], harness := (true, "ade3aaf299b117596e9864c97a2c768be66f77c963a2464f19fe5a03a8d8c3a5"), looks := false }, kinds := [], alts := [], laidByText := true, laidKinds := [.funcs], laidTests := true, laidLooks := .later }
def ProofLeavesCardSaid : Prop := Claim7.holds Tryz.pinned (.plain (OpenSpec.ofChange proofLeavesSpec)) proofLeavesCard

/-- THE TIED CARD OF 'postillaw09.ProofTrue'. -/
def proofTrueCard : Claim7 := { stood := { row := proofTrueRow, standIns := [], harness := (true, "ade3aaf299b117596e9864c97a2c768be66f77c963a2464f19fe5a03a8d8c3a5"), looks := false }, kinds := [], alts := [], laidByText := true, laidKinds := [.funcs], laidTests := true, laidLooks := .later }
def ProofTrueCardSaid : Prop := Claim7.holds Tryz.pinned (.plain (OpenSpec.ofChange proofTrueSpec)) proofTrueCard

/-- THE TIED CARD OF 'postillaw09.ProofEnds'. -/
def proofEndsCard : Claim7 := { stood := { row := proofEndsRow, standIns := [], harness := (true, "ade3aaf299b117596e9864c97a2c768be66f77c963a2464f19fe5a03a8d8c3a5"), looks := false }, kinds := [], alts := [], laidByText := true, laidKinds := [.funcs], laidTests := true, laidLooks := .later }
def ProofEndsCardSaid : Prop := Claim7.holds Tryz.pinned (.plain (OpenSpec.ofChange proofEndsSpec)) proofEndsCard

/-- THE TIED CARD OF 'postillaw09.ProofWorst'. -/
def proofWorstCard : Claim7 := { stood := { row := proofWorstRow, standIns := [], harness := (true, "ade3aaf299b117596e9864c97a2c768be66f77c963a2464f19fe5a03a8d8c3a5"), looks := false }, kinds := [], alts := [], laidByText := true, laidKinds := [.funcs], laidTests := true, laidLooks := .later }
def ProofWorstCardSaid : Prop := Claim7.holds Tryz.pinned (.plain (OpenSpec.ofChange proofWorstSpec)) proofWorstCard

/-- THE TIED CARD OF 'postillaw09.ProofWhy'. -/
def proofWhyCard : Claim7 := { stood := { row := proofWhyRow, standIns := [], harness := (true, "ade3aaf299b117596e9864c97a2c768be66f77c963a2464f19fe5a03a8d8c3a5"), looks := false }, kinds := [], alts := [], laidByText := true, laidKinds := [.funcs], laidTests := true, laidLooks := .later }
def ProofWhyCardSaid : Prop := Claim7.holds Tryz.pinned (.plain (OpenSpec.ofChange proofWhySpec)) proofWhyCard

/-- THE TIED CARD OF 'postillaw09.ProofChief'. -/
def proofChiefCard : Claim7 := { stood := { row := proofChiefRow, standIns := [], harness := (true, "ade3aaf299b117596e9864c97a2c768be66f77c963a2464f19fe5a03a8d8c3a5"), looks := false }, kinds := [], alts := [], laidByText := true, laidKinds := [.funcs], laidTests := true, laidLooks := .later }
def ProofChiefCardSaid : Prop := Claim7.holds Tryz.pinned (.plain (OpenSpec.ofChange proofChiefSpec)) proofChiefCard

/-- THE SECOND FORM's CARD OF 'postillaw09.ProofLeaves'. -/
def proofLeavesUptoCard : Claim7 := { stood := { row := proofLeavesUptoRow, standIns := [], harness := (true, "ade3aaf299b117596e9864c97a2c768be66f77c963a2464f19fe5a03a8d8c3a5"), looks := false }, kinds := [], alts := [], laidByText := true, laidKinds := [.funcs], laidTests := true, laidLooks := .later }
def ProofLeavesUptoCardSaid : Prop := Claim7.holds Tryz.pinned (.plain (OpenSpec.upto proofLeavesSpec)) proofLeavesUptoCard

/-- THE SECOND FORM's CARD OF 'postillaw09.ProofTrue'. -/
def proofTrueUptoCard : Claim7 := { stood := { row := proofTrueUptoRow, standIns := [], harness := (true, "ade3aaf299b117596e9864c97a2c768be66f77c963a2464f19fe5a03a8d8c3a5"), looks := false }, kinds := [], alts := [], laidByText := true, laidKinds := [.funcs], laidTests := true, laidLooks := .later }
def ProofTrueUptoCardSaid : Prop := Claim7.holds Tryz.pinned (.plain (OpenSpec.upto proofTrueSpec)) proofTrueUptoCard

/-- THE SECOND FORM's CARD OF 'postillaw09.ProofEnds'. -/
def proofEndsUptoCard : Claim7 := { stood := { row := proofEndsUptoRow, standIns := [], harness := (true, "ade3aaf299b117596e9864c97a2c768be66f77c963a2464f19fe5a03a8d8c3a5"), looks := false }, kinds := [], alts := [], laidByText := true, laidKinds := [.funcs], laidTests := true, laidLooks := .later }
def ProofEndsUptoCardSaid : Prop := Claim7.holds Tryz.pinned (.plain (OpenSpec.upto proofEndsSpec)) proofEndsUptoCard

/-- THE SECOND FORM's CARD OF 'postillaw09.ProofWorst'. -/
def proofWorstUptoCard : Claim7 := { stood := { row := proofWorstUptoRow, standIns := [], harness := (true, "ade3aaf299b117596e9864c97a2c768be66f77c963a2464f19fe5a03a8d8c3a5"), looks := false }, kinds := [], alts := [], laidByText := true, laidKinds := [.funcs], laidTests := true, laidLooks := .later }
def ProofWorstUptoCardSaid : Prop := Claim7.holds Tryz.pinned (.plain (OpenSpec.upto proofWorstSpec)) proofWorstUptoCard

/-- THE SECOND FORM's CARD OF 'postillaw09.ProofWhy'. -/
def proofWhyUptoCard : Claim7 := { stood := { row := proofWhyUptoRow, standIns := [], harness := (true, "ade3aaf299b117596e9864c97a2c768be66f77c963a2464f19fe5a03a8d8c3a5"), looks := false }, kinds := [], alts := [], laidByText := true, laidKinds := [.funcs], laidTests := true, laidLooks := .later }
def ProofWhyUptoCardSaid : Prop := Claim7.holds Tryz.pinned (.plain (OpenSpec.upto proofWhySpec)) proofWhyUptoCard

/-- THE SECOND FORM's CARD OF 'postillaw09.ProofChief'. -/
def proofChiefUptoCard : Claim7 := { stood := { row := proofChiefUptoRow, standIns := [], harness := (true, "ade3aaf299b117596e9864c97a2c768be66f77c963a2464f19fe5a03a8d8c3a5"), looks := false }, kinds := [], alts := [], laidByText := true, laidKinds := [.funcs], laidTests := true, laidLooks := .later }
def ProofChiefUptoCardSaid : Prop := Claim7.holds Tryz.pinned (.plain (OpenSpec.upto proofChiefSpec)) proofChiefUptoCard
end Rows
end Go.Proofs.YtbbdginipiljdaaGreatDoor
