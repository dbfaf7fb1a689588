/-
  DERIVED. GIVEN WITH THE SEED: THE CARDS: each row of YthboenlglkmnjaaDoorRows.lean that lists a variable, with what it lists TIED to the program's text (the seventh form; the later family's looks); each row that meets fmt, with fmt's text TOLD by the authors' own Lean function (tested against real Go, not proved from fmt's source: count such statements apart). THE CARD IS WHAT COUNTS. Prove the row's statement (the work); the ties are given (YthboenlglkmnjaaDoorTie.lean); close each card by the builder's one call (the guide's Derived/Test/ToyasCard.lean, 'card_holds'). Laid BY PROGRAM, IN A SANDBOX (cutbox-door.mjs). By AI agents, Wed Nov 11 2026. No macro, syntax, notation, axiom, sorry.
-/
import Derived.Test.YthboenlglkmnjaaDoorRows
import GoSem.ClaimSeven
namespace Go.Proofs.YthboenlglkmnjaaDoor
namespace Rows

/-- THE TIED CARD OF 'postillaw01.LeafCopies'. -/
def leafCopiesCard : Claim7 := { stood := { row := leafCopiesRow, standIns := [], harness := (true, "2c01a312abcf49c95c93a6726163144e1d2f3a4da342c5b931193527e415da3c"), looks := false }, kinds := [], alts := [], laidByText := true, laidKinds := [.funcs], laidTests := true, laidLooks := .later }
def LeafCopiesCardSaid : Prop := Claim7.holds Tryd.pinned (.plain (OpenSpec.ofChange leafCopiesSpec)) leafCopiesCard

/-- THE SECOND FORM's CARD OF 'postillaw01.LeafCopies'. -/
def leafCopiesUptoCard : Claim7 := { stood := { row := leafCopiesUptoRow, standIns := [], harness := (true, "2c01a312abcf49c95c93a6726163144e1d2f3a4da342c5b931193527e415da3c"), looks := false }, kinds := [], alts := [], laidByText := true, laidKinds := [.funcs], laidTests := true, laidLooks := .later }
def LeafCopiesUptoCardSaid : Prop := Claim7.holds Tryd.pinned (.plain (OpenSpec.upto leafCopiesSpec)) leafCopiesUptoCard
end Rows
end Go.Proofs.YthboenlglkmnjaaDoor
