/-
  DERIVED. GIVEN WITH THE SEED: THE CARDS: each row of YtejhjijbgceklaaDoorRows.lean that lists a variable, with what it lists TIED to the program's text (the seventh form; the later family's looks); each row that meets fmt, with fmt's text TOLD by the authors' own Lean function (tested against real Go, not proved from fmt's source: count such statements apart). THE CARD IS WHAT COUNTS. Prove the row's statement (the work); the ties are given (YtejhjijbgceklaaDoorTie.lean); close each card by the builder's one call (the guide's Derived/Test/ToyasCard.lean, 'card_holds'). Laid BY PROGRAM, IN A SANDBOX (cutbox-door.mjs). By AI agents, Wed Nov 11 2026. No macro, syntax, notation, axiom, sorry.
-/
import Derived.Test.YtejhjijbgceklaaDoorRows
import GoSem.ClaimSeven
namespace Go.Proofs.YtejhjijbgceklaaDoor
namespace Rows

/-- THE TIED CARD OF 'postillaw01.LeafCopies'. -/
def leafCopiesCard : Claim7 := { stood := { row := leafCopiesRow, standIns := [], harness := (true, "fa8c3d7f4911a4481599e28fa0c584dcd74ab45c73be0c46f304bd7880b5d94d"), looks := false }, kinds := [], alts := [], laidByText := true, laidKinds := [.funcs], laidTests := true, laidLooks := .later }
def LeafCopiesCardSaid : Prop := Claim7.holds Tryd.pinned (.plain (OpenSpec.ofChange leafCopiesSpec)) leafCopiesCard

/-- THE TIED CARD OF 'postillaw01.LeafPlaces'. -/
def leafPlacesCard : Claim7 := { stood := { row := leafPlacesRow, standIns := [], harness := (true, "fa8c3d7f4911a4481599e28fa0c584dcd74ab45c73be0c46f304bd7880b5d94d"), looks := false }, kinds := [], alts := [], laidByText := true, laidKinds := [.funcs], laidTests := true, laidLooks := .later }
def LeafPlacesCardSaid : Prop := Claim7.holds Tryd.pinned (.plain (OpenSpec.ofChange leafPlacesSpec)) leafPlacesCard

/-- THE TIED CARD OF 'postillaw01.LeafOrder'. -/
def leafOrderCard : Claim7 := { stood := { row := leafOrderRow, standIns := [], harness := (true, "fa8c3d7f4911a4481599e28fa0c584dcd74ab45c73be0c46f304bd7880b5d94d"), looks := false }, kinds := [], alts := [], laidByText := true, laidKinds := [.funcs], laidTests := true, laidLooks := .later }
def LeafOrderCardSaid : Prop := Claim7.holds Tryd.pinned (.plain (OpenSpec.ofChange leafOrderSpec)) leafOrderCard

/-- THE TIED CARD OF 'postillaw01.LeafVocabulary'. -/
def leafVocabularyCard : Claim7 := { stood := { row := leafVocabularyRow, standIns := [], harness := (true, "fa8c3d7f4911a4481599e28fa0c584dcd74ab45c73be0c46f304bd7880b5d94d"), looks := false }, kinds := [], alts := [], laidByText := true, laidKinds := [.funcs], laidTests := true, laidLooks := .later }
def LeafVocabularyCardSaid : Prop := Claim7.holds Tryd.pinned (.plain (OpenSpec.ofChange leafVocabularySpec)) leafVocabularyCard

/-- THE TIED CARD OF 'postillaw01.LeafFound'. -/
def leafFoundCard : Claim7 := { stood := { row := leafFoundRow, standIns := [], harness := (true, "fa8c3d7f4911a4481599e28fa0c584dcd74ab45c73be0c46f304bd7880b5d94d"), looks := false }, kinds := [], alts := [], laidByText := true, laidKinds := [.funcs], laidTests := true, laidLooks := .later }
def LeafFoundCardSaid : Prop := Claim7.holds Tryd.pinned (.plain (OpenSpec.ofChange leafFoundSpec)) leafFoundCard

/-- THE TIED CARD OF 'postillaw01.LeafNumbers'. -/
def leafNumbersCard : Claim7 := { stood := { row := leafNumbersRow, standIns := [], harness := (true, "fa8c3d7f4911a4481599e28fa0c584dcd74ab45c73be0c46f304bd7880b5d94d"), looks := false }, kinds := [], alts := [], laidByText := true, laidKinds := [.funcs], laidTests := true, laidLooks := .later }
def LeafNumbersCardSaid : Prop := Claim7.holds Tryd.pinned (.plain (OpenSpec.ofChange leafNumbersSpec)) leafNumbersCard

/-- THE SECOND FORM's CARD OF 'postillaw01.LeafCopies'. -/
def leafCopiesUptoCard : Claim7 := { stood := { row := leafCopiesUptoRow, standIns := [], harness := (true, "fa8c3d7f4911a4481599e28fa0c584dcd74ab45c73be0c46f304bd7880b5d94d"), looks := false }, kinds := [], alts := [], laidByText := true, laidKinds := [.funcs], laidTests := true, laidLooks := .later }
def LeafCopiesUptoCardSaid : Prop := Claim7.holds Tryd.pinned (.plain (OpenSpec.upto leafCopiesSpec)) leafCopiesUptoCard

/-- THE SECOND FORM's CARD OF 'postillaw01.LeafPlaces'. -/
def leafPlacesUptoCard : Claim7 := { stood := { row := leafPlacesUptoRow, standIns := [], harness := (true, "fa8c3d7f4911a4481599e28fa0c584dcd74ab45c73be0c46f304bd7880b5d94d"), looks := false }, kinds := [], alts := [], laidByText := true, laidKinds := [.funcs], laidTests := true, laidLooks := .later }
def LeafPlacesUptoCardSaid : Prop := Claim7.holds Tryd.pinned (.plain (OpenSpec.upto leafPlacesSpec)) leafPlacesUptoCard

/-- THE SECOND FORM's CARD OF 'postillaw01.LeafOrder'. -/
def leafOrderUptoCard : Claim7 := { stood := { row := leafOrderUptoRow, standIns := [], harness := (true, "fa8c3d7f4911a4481599e28fa0c584dcd74ab45c73be0c46f304bd7880b5d94d"), looks := false }, kinds := [], alts := [], laidByText := true, laidKinds := [.funcs], laidTests := true, laidLooks := .later }
def LeafOrderUptoCardSaid : Prop := Claim7.holds Tryd.pinned (.plain (OpenSpec.upto leafOrderSpec)) leafOrderUptoCard

/-- THE SECOND FORM's CARD OF 'postillaw01.LeafVocabulary'. -/
def leafVocabularyUptoCard : Claim7 := { stood := { row := leafVocabularyUptoRow, standIns := [], harness := (true, "fa8c3d7f4911a4481599e28fa0c584dcd74ab45c73be0c46f304bd7880b5d94d"), looks := false }, kinds := [], alts := [], laidByText := true, laidKinds := [.funcs], laidTests := true, laidLooks := .later }
def LeafVocabularyUptoCardSaid : Prop := Claim7.holds Tryd.pinned (.plain (OpenSpec.upto leafVocabularySpec)) leafVocabularyUptoCard

/-- THE SECOND FORM's CARD OF 'postillaw01.LeafFound'. -/
def leafFoundUptoCard : Claim7 := { stood := { row := leafFoundUptoRow, standIns := [], harness := (true, "fa8c3d7f4911a4481599e28fa0c584dcd74ab45c73be0c46f304bd7880b5d94d"), looks := false }, kinds := [], alts := [], laidByText := true, laidKinds := [.funcs], laidTests := true, laidLooks := .later }
def LeafFoundUptoCardSaid : Prop := Claim7.holds Tryd.pinned (.plain (OpenSpec.upto leafFoundSpec)) leafFoundUptoCard

/-- THE SECOND FORM's CARD OF 'postillaw01.LeafNumbers'. -/
def leafNumbersUptoCard : Claim7 := { stood := { row := leafNumbersUptoRow, standIns := [], harness := (true, "fa8c3d7f4911a4481599e28fa0c584dcd74ab45c73be0c46f304bd7880b5d94d"), looks := false }, kinds := [], alts := [], laidByText := true, laidKinds := [.funcs], laidTests := true, laidLooks := .later }
def LeafNumbersUptoCardSaid : Prop := Claim7.holds Tryd.pinned (.plain (OpenSpec.upto leafNumbersSpec)) leafNumbersUptoCard
end Rows
end Go.Proofs.YtejhjijbgceklaaDoor
