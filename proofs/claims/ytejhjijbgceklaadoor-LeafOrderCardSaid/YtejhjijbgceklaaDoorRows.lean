/-
  NARROWER THAN 'FOR EVERY INPUT', by the rows' own cells (each row's printed sentence says how): LeafCopies: laid · LeafPlaces: laid · LeafOrder: laid · LeafVocabulary: laid · LeafFound: laid · LeafNumbers: laid.
  DERIVED. THE GIVEN ROWS OF THIS SEAT. 6 by the template 'for every input the law returns true; each argument reads behind the call as it read before'; 0 by the template 'total and deterministic' (their statements: YtejhjijbgceklaaDoorTotals.lean).
  GIVEN WITH THE SEED: the statements are not yours to turn. If you find one false, say at which input.
  Laid BY PROGRAM, IN A SANDBOX (cutbox-rows.mjs): the forced cells as the released guide's own fill.sh prints them over the translation aaddb16950f94ad7… (all of the seat's roots in one cut). By AI agents, Wed Nov 11 2026. No macro, syntax, notation, axiom, sorry.
-/
import Derived.Test.YtejhjijbgceklaaDoorChecked
import GoSem.Claim
import GoSem.ClaimJoined
import GoSem.ClaimMapViews
import Derived.JoinedTies
import Derived.KernelRfl
namespace Go.Proofs.YtejhjijbgceklaaDoor
/- THE CELL 'sum', in the pinned program and in every row, IS THE sha256 OF THE DUMP (.gsa) THAT YtejhjijbgceklaaDoorProg.lean LOADS. Nothing in Lean hashes anything: it is a label: what it is worth is what the hold of that sum in a sandbox is worth. -/
noncomputable def Tryd.pinned : Pinned := { name := "ytejhjijbgceklaadoor", sum := "aaddb16950f94ad7829a9453f95d24f3d5ca803c2da195325a9f9245a43fd7dd", checked := Tryd.checked }
namespace Rows
def none {H : Type} : Left H := { results := [], args := [] }

/- WHAT THE LISTED PACKAGE-LEVEL VARIABLES READ AS WHEN THE CALL BEGINS. Each datum BY PROGRAM (the guide's laid-datum.mjs) off the statement by which the dump's own 'gosem.cut.vars' lays the variable. In a bare row this is a premise. The card (YtejhjijbgceklaaDoorCards.lean) ties it to the program's text. -/
def laid_postil_leaf_kinds {H : Type} : DataW H := .iface "func table" (.agg [.agg [.lit (.int .i64 0), .nil, .nil], .agg [.lit (.int .i64 0), .iface "func" (.lit (.string [112, 111, 115, 116, 105, 108, 47, 108, 101, 97, 102, 46, 107, 105, 110, 100, 115, 36, 49])), .iface "func" (.lit (.string [112, 111, 115, 116, 105, 108, 47, 108, 101, 97, 102, 46, 107, 105, 110, 100, 115, 36, 50]))], .agg [.lit (.int .i64 1), .iface "func" (.lit (.string [112, 111, 115, 116, 105, 108, 47, 108, 101, 97, 102, 46, 107, 105, 110, 100, 115, 36, 51])), .iface "func" (.lit (.string [112, 111, 115, 116, 105, 108, 47, 108, 101, 97, 102, 46, 107, 105, 110, 100, 115, 36, 52]))], .agg [.lit (.int .i64 0), .iface "func" (.lit (.string [112, 111, 115, 116, 105, 108, 47, 108, 101, 97, 102, 46, 107, 105, 110, 100, 115, 36, 53])), .iface "func" (.lit (.string [112, 111, 115, 116, 105, 108, 47, 108, 101, 97, 102, 46, 107, 105, 110, 100, 115, 36, 54]))]])

/-- 'postillaw01.LeafCopies': WHATEVER THE INPUT: true; the input reads as it did. -/
def leafCopiesSpec : ChangeSpec := { name := "leafCopies", fn := fun _ => fun
  | [d1, d2, d3, d4] => { results := [.lit (.bool true)], args := [d1, d2, d3, d4] }
  | _ => none }
def leafCopiesRow : OpenClaim := { program := "ytejhjijbgceklaadoor", sum := "aaddb16950f94ad7829a9453f95d24f3d5ca803c2da195325a9f9245a43fd7dd", func := "postil/postillaw01.LeafCopies", spec := "leafCopies", unfollowed := true, recurses := true, named := ["postil/leaf.kinds"], plainKeys := false, apart := false, laid := [("postil/leaf.kinds", laid_postil_leaf_kinds)] }
def LeafCopiesSaid : Prop := leafCopiesRow.holds Tryd.pinned (OpenSpec.ofChange leafCopiesSpec)

/-- ITS FALSE NEIGHBOUR: 'it returns false'. Refute it at one input. -/
def leafCopiesWrong : ChangeSpec := { name := "leafCopies", fn := fun _ => fun
  | [d1, d2, d3, d4] => { results := [.lit (.bool false)], args := [d1, d2, d3, d4] }
  | _ => none }
def LeafCopiesWrongFalsely : Prop := leafCopiesRow.holds Tryd.pinned (OpenSpec.ofChange leafCopiesWrong)

/-- 'postillaw01.LeafPlaces': WHATEVER THE INPUT: true; the input reads as it did. -/
def leafPlacesSpec : ChangeSpec := { name := "leafPlaces", fn := fun _ => fun
  | [d1, d2] => { results := [.lit (.bool true)], args := [d1, d2] }
  | _ => none }
def leafPlacesRow : OpenClaim := { program := "ytejhjijbgceklaadoor", sum := "aaddb16950f94ad7829a9453f95d24f3d5ca803c2da195325a9f9245a43fd7dd", func := "postil/postillaw01.LeafPlaces", spec := "leafPlaces", unfollowed := true, recurses := true, named := ["postil/leaf.kinds"], plainKeys := false, apart := false, laid := [("postil/leaf.kinds", laid_postil_leaf_kinds)] }
def LeafPlacesSaid : Prop := leafPlacesRow.holds Tryd.pinned (OpenSpec.ofChange leafPlacesSpec)

/-- ITS FALSE NEIGHBOUR: 'it returns false'. Refute it at one input. -/
def leafPlacesWrong : ChangeSpec := { name := "leafPlaces", fn := fun _ => fun
  | [d1, d2] => { results := [.lit (.bool false)], args := [d1, d2] }
  | _ => none }
def LeafPlacesWrongFalsely : Prop := leafPlacesRow.holds Tryd.pinned (OpenSpec.ofChange leafPlacesWrong)

/-- 'postillaw01.LeafOrder': WHATEVER THE INPUT: true; the input reads as it did. -/
def leafOrderSpec : ChangeSpec := { name := "leafOrder", fn := fun _ => fun
  | [d1, d2, d3, d4] => { results := [.lit (.bool true)], args := [d1, d2, d3, d4] }
  | _ => none }
def leafOrderRow : OpenClaim := { program := "ytejhjijbgceklaadoor", sum := "aaddb16950f94ad7829a9453f95d24f3d5ca803c2da195325a9f9245a43fd7dd", func := "postil/postillaw01.LeafOrder", spec := "leafOrder", unfollowed := true, recurses := true, named := ["postil/leaf.kinds"], plainKeys := false, apart := false, laid := [("postil/leaf.kinds", laid_postil_leaf_kinds)] }
def LeafOrderSaid : Prop := leafOrderRow.holds Tryd.pinned (OpenSpec.ofChange leafOrderSpec)

/-- ITS FALSE NEIGHBOUR: 'it returns false'. Refute it at one input. -/
def leafOrderWrong : ChangeSpec := { name := "leafOrder", fn := fun _ => fun
  | [d1, d2, d3, d4] => { results := [.lit (.bool false)], args := [d1, d2, d3, d4] }
  | _ => none }
def LeafOrderWrongFalsely : Prop := leafOrderRow.holds Tryd.pinned (OpenSpec.ofChange leafOrderWrong)

/-- 'postillaw01.LeafVocabulary': WHATEVER THE INPUT: true; the input reads as it did. -/
def leafVocabularySpec : ChangeSpec := { name := "leafVocabulary", fn := fun _ => fun
  | [d1, d2] => { results := [.lit (.bool true)], args := [d1, d2] }
  | _ => none }
def leafVocabularyRow : OpenClaim := { program := "ytejhjijbgceklaadoor", sum := "aaddb16950f94ad7829a9453f95d24f3d5ca803c2da195325a9f9245a43fd7dd", func := "postil/postillaw01.LeafVocabulary", spec := "leafVocabulary", unfollowed := true, recurses := true, named := ["postil/leaf.kinds"], plainKeys := false, apart := false, laid := [("postil/leaf.kinds", laid_postil_leaf_kinds)] }
def LeafVocabularySaid : Prop := leafVocabularyRow.holds Tryd.pinned (OpenSpec.ofChange leafVocabularySpec)

/-- ITS FALSE NEIGHBOUR: 'it returns false'. Refute it at one input. -/
def leafVocabularyWrong : ChangeSpec := { name := "leafVocabulary", fn := fun _ => fun
  | [d1, d2] => { results := [.lit (.bool false)], args := [d1, d2] }
  | _ => none }
def LeafVocabularyWrongFalsely : Prop := leafVocabularyRow.holds Tryd.pinned (OpenSpec.ofChange leafVocabularyWrong)

/-- 'postillaw01.LeafFound': WHATEVER THE INPUT: true; the input reads as it did. -/
def leafFoundSpec : ChangeSpec := { name := "leafFound", fn := fun _ => fun
  | [d1, d2, d3] => { results := [.lit (.bool true)], args := [d1, d2, d3] }
  | _ => none }
def leafFoundRow : OpenClaim := { program := "ytejhjijbgceklaadoor", sum := "aaddb16950f94ad7829a9453f95d24f3d5ca803c2da195325a9f9245a43fd7dd", func := "postil/postillaw01.LeafFound", spec := "leafFound", unfollowed := true, recurses := true, named := ["postil/leaf.kinds"], plainKeys := false, apart := false, laid := [("postil/leaf.kinds", laid_postil_leaf_kinds)] }
def LeafFoundSaid : Prop := leafFoundRow.holds Tryd.pinned (OpenSpec.ofChange leafFoundSpec)

/-- ITS FALSE NEIGHBOUR: 'it returns false'. Refute it at one input. -/
def leafFoundWrong : ChangeSpec := { name := "leafFound", fn := fun _ => fun
  | [d1, d2, d3] => { results := [.lit (.bool false)], args := [d1, d2, d3] }
  | _ => none }
def LeafFoundWrongFalsely : Prop := leafFoundRow.holds Tryd.pinned (OpenSpec.ofChange leafFoundWrong)

/-- 'postillaw01.LeafNumbers': WHATEVER THE INPUT: true; the input reads as it did. -/
def leafNumbersSpec : ChangeSpec := { name := "leafNumbers", fn := fun _ => fun
  | [d1, d2, d3] => { results := [.lit (.bool true)], args := [d1, d2, d3] }
  | _ => none }
def leafNumbersRow : OpenClaim := { program := "ytejhjijbgceklaadoor", sum := "aaddb16950f94ad7829a9453f95d24f3d5ca803c2da195325a9f9245a43fd7dd", func := "postil/postillaw01.LeafNumbers", spec := "leafNumbers", unfollowed := true, recurses := true, named := ["postil/leaf.kinds"], plainKeys := false, apart := false, laid := [("postil/leaf.kinds", laid_postil_leaf_kinds)] }
def LeafNumbersSaid : Prop := leafNumbersRow.holds Tryd.pinned (OpenSpec.ofChange leafNumbersSpec)

/-- ITS FALSE NEIGHBOUR: 'it returns false'. Refute it at one input. -/
def leafNumbersWrong : ChangeSpec := { name := "leafNumbers", fn := fun _ => fun
  | [d1, d2, d3] => { results := [.lit (.bool false)], args := [d1, d2, d3] }
  | _ => none }
def LeafNumbersWrongFalsely : Prop := leafNumbersRow.holds Tryd.pinned (OpenSpec.ofChange leafNumbersWrong)

/- THE SECOND FORM. 'bulk': how many values and letters a reading holds, each counted each time it is reached (what is shared counts as often as it is met; a slice's spare places count too). A statement '..UptoSaid' is the law's where the arguments, and the package variables that the reading takes, are together of bulk at most 1048576: NARROWER than '..Said'. Prove '..Said' where nothing that the law and all that it calls make is longer than what came in: it says more and counts as full. Else prove '..UptoSaid'. A law counts once. -/
mutual
def uptoBulk {H : Type} : DataW H → Nat
  | .lit (.string bytes) => bytes.length + 1
  | .lit _ => 1
  | .nil => 1
  | .ptr d => uptoBulk d + 1
  | .slice elems spare => uptoBulkAll elems + uptoBulkAll spare + 1
  | .agg parts => uptoBulkAll parts + 1
  | .iface _ d => uptoBulk d + 1
  | .map entries => uptoBulkEntries entries + 1
  | .held _ => 1
def uptoBulkAll {H : Type} : List (DataW H) → Nat
  | [] => 0
  | d :: r => uptoBulk d + uptoBulkAll r
def uptoBulkEntries {H : Type} : List (Lit × DataW H) → Nat
  | [] => 0
  | x :: r => uptoBulkEntry x + uptoBulkEntries r
def uptoBulkEntry {H : Type} : Lit × DataW H → Nat
  | (.string bytes, d) => bytes.length + uptoBulk d + 1
  | (_, d) => uptoBulk d + 1
 end
def uptoSmall : (H : Type) → List (DataW H) → Bool := fun _ ds => decide (uptoBulkAll ds ≤ 1048576)
def OpenSpec.upto (s : _root_.Go.ChangeSpec) : _root_.Go.OpenSpec := { _root_.Go.OpenSpec.ofChange s with cond := some uptoSmall }

/-- 'postillaw01.LeafCopies', WHERE WHAT IT READS IS OF BULK AT MOST 1048576: true; the input reads as it did. -/
def leafCopiesUptoRow : OpenClaim := { program := "ytejhjijbgceklaadoor", sum := "aaddb16950f94ad7829a9453f95d24f3d5ca803c2da195325a9f9245a43fd7dd", func := "postil/postillaw01.LeafCopies", spec := "leafCopies", unfollowed := true, recurses := true, named := ["postil/leaf.kinds"], plainKeys := false, apart := false, laid := [("postil/leaf.kinds", laid_postil_leaf_kinds)], narrowed := true }
def LeafCopiesUptoSaid : Prop := leafCopiesUptoRow.holds Tryd.pinned (OpenSpec.upto leafCopiesSpec)

/-- 'postillaw01.LeafPlaces', WHERE WHAT IT READS IS OF BULK AT MOST 1048576: true; the input reads as it did. -/
def leafPlacesUptoRow : OpenClaim := { program := "ytejhjijbgceklaadoor", sum := "aaddb16950f94ad7829a9453f95d24f3d5ca803c2da195325a9f9245a43fd7dd", func := "postil/postillaw01.LeafPlaces", spec := "leafPlaces", unfollowed := true, recurses := true, named := ["postil/leaf.kinds"], plainKeys := false, apart := false, laid := [("postil/leaf.kinds", laid_postil_leaf_kinds)], narrowed := true }
def LeafPlacesUptoSaid : Prop := leafPlacesUptoRow.holds Tryd.pinned (OpenSpec.upto leafPlacesSpec)

/-- 'postillaw01.LeafOrder', WHERE WHAT IT READS IS OF BULK AT MOST 1048576: true; the input reads as it did. -/
def leafOrderUptoRow : OpenClaim := { program := "ytejhjijbgceklaadoor", sum := "aaddb16950f94ad7829a9453f95d24f3d5ca803c2da195325a9f9245a43fd7dd", func := "postil/postillaw01.LeafOrder", spec := "leafOrder", unfollowed := true, recurses := true, named := ["postil/leaf.kinds"], plainKeys := false, apart := false, laid := [("postil/leaf.kinds", laid_postil_leaf_kinds)], narrowed := true }
def LeafOrderUptoSaid : Prop := leafOrderUptoRow.holds Tryd.pinned (OpenSpec.upto leafOrderSpec)

/-- 'postillaw01.LeafVocabulary', WHERE WHAT IT READS IS OF BULK AT MOST 1048576: true; the input reads as it did. -/
def leafVocabularyUptoRow : OpenClaim := { program := "ytejhjijbgceklaadoor", sum := "aaddb16950f94ad7829a9453f95d24f3d5ca803c2da195325a9f9245a43fd7dd", func := "postil/postillaw01.LeafVocabulary", spec := "leafVocabulary", unfollowed := true, recurses := true, named := ["postil/leaf.kinds"], plainKeys := false, apart := false, laid := [("postil/leaf.kinds", laid_postil_leaf_kinds)], narrowed := true }
def LeafVocabularyUptoSaid : Prop := leafVocabularyUptoRow.holds Tryd.pinned (OpenSpec.upto leafVocabularySpec)

/-- 'postillaw01.LeafFound', WHERE WHAT IT READS IS OF BULK AT MOST 1048576: true; the input reads as it did. -/
def leafFoundUptoRow : OpenClaim := { program := "ytejhjijbgceklaadoor", sum := "aaddb16950f94ad7829a9453f95d24f3d5ca803c2da195325a9f9245a43fd7dd", func := "postil/postillaw01.LeafFound", spec := "leafFound", unfollowed := true, recurses := true, named := ["postil/leaf.kinds"], plainKeys := false, apart := false, laid := [("postil/leaf.kinds", laid_postil_leaf_kinds)], narrowed := true }
def LeafFoundUptoSaid : Prop := leafFoundUptoRow.holds Tryd.pinned (OpenSpec.upto leafFoundSpec)

/-- 'postillaw01.LeafNumbers', WHERE WHAT IT READS IS OF BULK AT MOST 1048576: true; the input reads as it did. -/
def leafNumbersUptoRow : OpenClaim := { program := "ytejhjijbgceklaadoor", sum := "aaddb16950f94ad7829a9453f95d24f3d5ca803c2da195325a9f9245a43fd7dd", func := "postil/postillaw01.LeafNumbers", spec := "leafNumbers", unfollowed := true, recurses := true, named := ["postil/leaf.kinds"], plainKeys := false, apart := false, laid := [("postil/leaf.kinds", laid_postil_leaf_kinds)], narrowed := true }
def LeafNumbersUptoSaid : Prop := leafNumbersUptoRow.holds Tryd.pinned (OpenSpec.upto leafNumbersSpec)

end Rows
end Go.Proofs.YtejhjijbgceklaaDoor
