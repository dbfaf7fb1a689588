/-
  DERIVED. GIVEN WITH THE SEED: THE CARDS: each row of YtgffhbbcpgdjjaaDoorRows.lean that lists a variable, with what it lists TIED to the program's text (the seventh form; the later family's looks); each row that meets fmt, with fmt's text TOLD by the authors' own Lean function (tested against real Go, not proved from fmt's source: count such statements apart). THE CARD IS WHAT COUNTS. Prove the row's statement (the work); the ties are given (YtgffhbbcpgdjjaaDoorTie.lean); close each card by the builder's one call (the guide's Derived/Test/ToyasCard.lean, 'card_holds'). Laid BY PROGRAM, IN A SANDBOX (cutbox-door.mjs). By AI agents, Wed Nov 11 2026. No macro, syntax, notation, axiom, sorry.
-/
import Derived.Test.YtgffhbbcpgdjjaaDoorRows
import GoSem.ClaimSeven
namespace Go.Proofs.YtgffhbbcpgdjjaaDoor
namespace Rows

/-- THE TIED CARD OF 'postillaw09.ProofTells'. -/
def proofTellsCard : Claim7 := { stood := { row := proofTellsRow, standIns := [], harness := (true, "252c9fd2f82bbff2482747064343d4b3da19304de73ad4aed675c205cc44905c"), looks := false }, kinds := [], alts := [], laidByText := true, laidKinds := [.funcs], laidTests := true, laidLooks := .later }
def ProofTellsCardSaid : Prop := Claim7.holds Tryd.pinned (.plain (OpenSpec.ofChange proofTellsSpec)) proofTellsCard

/-- THE TIED CARD OF 'postillaw09.ProofChiefs'. -/
def proofChiefsCard : Claim7 := { stood := { row := proofChiefsRow, standIns := [], harness := (true, "252c9fd2f82bbff2482747064343d4b3da19304de73ad4aed675c205cc44905c"), looks := false }, kinds := [], alts := [], laidByText := true, laidKinds := [.funcs], laidTests := true, laidLooks := .later }
def ProofChiefsCardSaid : Prop := Claim7.holds Tryd.pinned (.plain (OpenSpec.ofChange proofChiefsSpec)) proofChiefsCard

/-- THE TIED CARD OF 'postillaw09.ProofExamples'. -/
def proofExamplesCard : Claim7 := { stood := { row := proofExamplesRow, standIns := [], harness := (true, "252c9fd2f82bbff2482747064343d4b3da19304de73ad4aed675c205cc44905c"), looks := false }, kinds := [], alts := [], laidByText := true, laidKinds := [.funcs], laidTests := true, laidLooks := .later }
def ProofExamplesCardSaid : Prop := Claim7.holds Tryd.pinned (.plain (OpenSpec.ofChange proofExamplesSpec)) proofExamplesCard

/-- THE SECOND FORM's CARD OF 'postillaw09.ProofTells'. -/
def proofTellsUptoCard : Claim7 := { stood := { row := proofTellsUptoRow, standIns := [], harness := (true, "252c9fd2f82bbff2482747064343d4b3da19304de73ad4aed675c205cc44905c"), looks := false }, kinds := [], alts := [], laidByText := true, laidKinds := [.funcs], laidTests := true, laidLooks := .later }
def ProofTellsUptoCardSaid : Prop := Claim7.holds Tryd.pinned (.plain (OpenSpec.upto proofTellsSpec)) proofTellsUptoCard

/-- THE SECOND FORM's CARD OF 'postillaw09.ProofChiefs'. -/
def proofChiefsUptoCard : Claim7 := { stood := { row := proofChiefsUptoRow, standIns := [], harness := (true, "252c9fd2f82bbff2482747064343d4b3da19304de73ad4aed675c205cc44905c"), looks := false }, kinds := [], alts := [], laidByText := true, laidKinds := [.funcs], laidTests := true, laidLooks := .later }
def ProofChiefsUptoCardSaid : Prop := Claim7.holds Tryd.pinned (.plain (OpenSpec.upto proofChiefsSpec)) proofChiefsUptoCard

/-- THE SECOND FORM's CARD OF 'postillaw09.ProofExamples'. -/
def proofExamplesUptoCard : Claim7 := { stood := { row := proofExamplesUptoRow, standIns := [], harness := (true, "252c9fd2f82bbff2482747064343d4b3da19304de73ad4aed675c205cc44905c"), looks := false }, kinds := [], alts := [], laidByText := true, laidKinds := [.funcs], laidTests := true, laidLooks := .later }
def ProofExamplesUptoCardSaid : Prop := Claim7.holds Tryd.pinned (.plain (OpenSpec.upto proofExamplesSpec)) proofExamplesUptoCard
end Rows
end Go.Proofs.YtgffhbbcpgdjjaaDoor
