/-
  DERIVED. GIVEN WITH THE SEED: THE CARDS: each row of YtgffhbbcpgdjjaaGreatDoorRows.lean that lists a variable, with what it lists TIED to the program's text (the seventh form; the later family's looks); each row that meets fmt, with fmt's text TOLD by the authors' own Lean function (tested against real Go, not proved from fmt's source: count such statements apart). THE CARD IS WHAT COUNTS. Prove the row's statement (the work); the ties are given (YtgffhbbcpgdjjaaGreatDoorTie.lean); close each card by the builder's one call (the guide's Derived/Test/ToyasCard.lean, 'card_holds'). Laid BY PROGRAM, IN A SANDBOX (cutbox-door.mjs). By AI agents, Wed Nov 11 2026. No macro, syntax, notation, axiom, sorry.
-/
import Derived.Test.YtgffhbbcpgdjjaaGreatDoorRows
import GoSem.ClaimSeven
namespace Go.Proofs.YtgffhbbcpgdjjaaGreatDoor
namespace Rows

/-- THE TIED CARD OF 'postillaw09.ProofTrue'. -/
def proofTrueCard : Claim7 := { stood := { row := proofTrueRow, standIns := [], harness := (true, "abe06c685bbb8f8a1106dad5f816e54f47d367b59873c232b1e6e744e6490ae7"), looks := false }, kinds := [], alts := [], laidByText := true, laidKinds := [.funcs], laidTests := true, laidLooks := .later }
def ProofTrueCardSaid : Prop := Claim7.holds Tryz.pinned (.plain (OpenSpec.ofChange proofTrueSpec)) proofTrueCard

/-- THE TIED CARD OF 'postillaw09.ProofPages'. -/
def proofPagesCard : Claim7 := { stood := { row := proofPagesRow, standIns := [], harness := (true, "abe06c685bbb8f8a1106dad5f816e54f47d367b59873c232b1e6e744e6490ae7"), looks := false }, kinds := [], alts := [], laidByText := true, laidKinds := [.funcs], laidTests := true, laidLooks := .later }
def ProofPagesCardSaid : Prop := Claim7.holds Tryz.pinned (.plain (OpenSpec.ofChange proofPagesSpec)) proofPagesCard

/-- THE SECOND FORM's CARD OF 'postillaw09.ProofTrue'. -/
def proofTrueUptoCard : Claim7 := { stood := { row := proofTrueUptoRow, standIns := [], harness := (true, "abe06c685bbb8f8a1106dad5f816e54f47d367b59873c232b1e6e744e6490ae7"), looks := false }, kinds := [], alts := [], laidByText := true, laidKinds := [.funcs], laidTests := true, laidLooks := .later }
def ProofTrueUptoCardSaid : Prop := Claim7.holds Tryz.pinned (.plain (OpenSpec.upto proofTrueSpec)) proofTrueUptoCard

/-- THE SECOND FORM's CARD OF 'postillaw09.ProofPages'. -/
def proofPagesUptoCard : Claim7 := { stood := { row := proofPagesUptoRow, standIns := [], harness := (true, "abe06c685bbb8f8a1106dad5f816e54f47d367b59873c232b1e6e744e6490ae7"), looks := false }, kinds := [], alts := [], laidByText := true, laidKinds := [.funcs], laidTests := true, laidLooks := .later }
def ProofPagesUptoCardSaid : Prop := Claim7.holds Tryz.pinned (.plain (OpenSpec.upto proofPagesSpec)) proofPagesUptoCard
end Rows
end Go.Proofs.YtgffhbbcpgdjjaaGreatDoor
