/-
  NARROWER THAN 'FOR EVERY INPUT', by the rows' own cells (each row's printed sentence says how): ProofTells: laid · ProofChiefs: laid · ProofExamples: laid.
  DERIVED. THE GIVEN ROWS OF THIS SEAT. 3 by the template 'for every input the law returns true; each argument reads behind the call as it read before'; 0 by the template 'total and deterministic' (their statements: YtgffhbbcpgdjjaaDoorTotals.lean).
  GIVEN WITH THE SEED: the statements are not yours to turn. If you find one false, say at which input.
  Laid BY PROGRAM, IN A SANDBOX (cutbox-rows.mjs): the forced cells as the released guide's own fill.sh prints them over the translation 9eab1c0d81ccbb13… (all of the seat's roots in one cut). By AI agents, Wed Nov 11 2026. No macro, syntax, notation, axiom, sorry.
-/
import Derived.Test.YtgffhbbcpgdjjaaDoorChecked
import GoSem.Claim
import GoSem.ClaimJoined
import GoSem.ClaimMapViews
import Derived.JoinedTies
import Derived.KernelRfl
namespace Go.Proofs.YtgffhbbcpgdjjaaDoor
/- THE CELL 'sum', in the pinned program and in every row, IS THE sha256 OF THE DUMP (.gsa) THAT YtgffhbbcpgdjjaaDoorProg.lean LOADS. Nothing in Lean hashes anything: it is a label: what it is worth is what the hold of that sum in a sandbox is worth. -/
noncomputable def Tryd.pinned : Pinned := { name := "ytgffhbbcpgdjjaadoor", sum := "9eab1c0d81ccbb1378de96232999fc45f8a6c1dcb368acaa8ba4b5a3c6a040ff", checked := Tryd.checked }
namespace Rows
def none {H : Type} : Left H := { results := [], args := [] }

/- WHAT THE LISTED PACKAGE-LEVEL VARIABLES READ AS WHEN THE CALL BEGINS. Each datum BY PROGRAM (the guide's laid-datum.mjs) off the statement by which the dump's own 'gosem.cut.vars' lays the variable. In a bare row this is a premise. The card (YtgffhbbcpgdjjaaDoorCards.lean) ties it to the program's text. -/
def laid_postil_proof_sides {H : Type} : DataW H := .iface "func table" (.agg [.agg [.iface "func" (.lit (.string [112, 111, 115, 116, 105, 108, 47, 112, 114, 111, 111, 102, 46, 115, 105, 100, 101, 115, 36, 49])), .iface "func" (.lit (.string [112, 111, 115, 116, 105, 108, 47, 112, 114, 111, 111, 102, 46, 115, 105, 100, 101, 115, 36, 50])), .iface "func" (.lit (.string [112, 111, 115, 116, 105, 108, 47, 112, 114, 111, 111, 102, 46, 115, 105, 100, 101, 115, 36, 51]))], .agg [.iface "func" (.lit (.string [112, 111, 115, 116, 105, 108, 47, 112, 114, 111, 111, 102, 46, 115, 105, 100, 101, 115, 36, 52])), .iface "func" (.lit (.string [112, 111, 115, 116, 105, 108, 47, 112, 114, 111, 111, 102, 46, 115, 105, 100, 101, 115, 36, 53])), .iface "func" (.lit (.string [112, 111, 115, 116, 105, 108, 47, 112, 114, 111, 111, 102, 46, 115, 105, 100, 101, 115, 36, 54]))]])

/-- 'postillaw09.ProofTells': WHATEVER THE INPUT: true; the input reads as it did. -/
def proofTellsSpec : ChangeSpec := { name := "proofTells", fn := fun _ => fun
  | [d1, d2, d3, d4] => { results := [.lit (.bool true)], args := [d1, d2, d3, d4] }
  | _ => none }
def proofTellsRow : OpenClaim := { program := "ytgffhbbcpgdjjaadoor", sum := "9eab1c0d81ccbb1378de96232999fc45f8a6c1dcb368acaa8ba4b5a3c6a040ff", func := "postil/postillaw09.ProofTells", spec := "proofTells", unfollowed := true, recurses := true, named := ["postil/proof.sides"], plainKeys := false, apart := false, laid := [("postil/proof.sides", laid_postil_proof_sides)] }
def ProofTellsSaid : Prop := proofTellsRow.holds Tryd.pinned (OpenSpec.ofChange proofTellsSpec)

/-- ITS FALSE NEIGHBOUR: 'it returns false'. Refute it at one input. -/
def proofTellsWrong : ChangeSpec := { name := "proofTells", fn := fun _ => fun
  | [d1, d2, d3, d4] => { results := [.lit (.bool false)], args := [d1, d2, d3, d4] }
  | _ => none }
def ProofTellsWrongFalsely : Prop := proofTellsRow.holds Tryd.pinned (OpenSpec.ofChange proofTellsWrong)

/-- 'postillaw09.ProofChiefs': WHATEVER THE INPUT: true; the input reads as it did. -/
def proofChiefsSpec : ChangeSpec := { name := "proofChiefs", fn := fun _ => fun
  | [d1, d2] => { results := [.lit (.bool true)], args := [d1, d2] }
  | _ => none }
def proofChiefsRow : OpenClaim := { program := "ytgffhbbcpgdjjaadoor", sum := "9eab1c0d81ccbb1378de96232999fc45f8a6c1dcb368acaa8ba4b5a3c6a040ff", func := "postil/postillaw09.ProofChiefs", spec := "proofChiefs", unfollowed := true, recurses := true, named := ["postil/proof.sides"], plainKeys := false, apart := false, laid := [("postil/proof.sides", laid_postil_proof_sides)] }
def ProofChiefsSaid : Prop := proofChiefsRow.holds Tryd.pinned (OpenSpec.ofChange proofChiefsSpec)

/-- ITS FALSE NEIGHBOUR: 'it returns false'. Refute it at one input. -/
def proofChiefsWrong : ChangeSpec := { name := "proofChiefs", fn := fun _ => fun
  | [d1, d2] => { results := [.lit (.bool false)], args := [d1, d2] }
  | _ => none }
def ProofChiefsWrongFalsely : Prop := proofChiefsRow.holds Tryd.pinned (OpenSpec.ofChange proofChiefsWrong)

/-- 'postillaw09.ProofExamples': WHATEVER THE INPUT: true; the input reads as it did. -/
def proofExamplesSpec : ChangeSpec := { name := "proofExamples", fn := fun _ => fun
  | [] => { results := [.lit (.bool true)], args := [] }
  | _ => none }
def proofExamplesRow : OpenClaim := { program := "ytgffhbbcpgdjjaadoor", sum := "9eab1c0d81ccbb1378de96232999fc45f8a6c1dcb368acaa8ba4b5a3c6a040ff", func := "postil/postillaw09.ProofExamples", spec := "proofExamples", unfollowed := true, recurses := true, named := ["postil/proof.sides"], plainKeys := false, apart := false, laid := [("postil/proof.sides", laid_postil_proof_sides)] }
def ProofExamplesSaid : Prop := proofExamplesRow.holds Tryd.pinned (OpenSpec.ofChange proofExamplesSpec)

/-- ITS FALSE NEIGHBOUR: 'it returns false'. Refute it at one input. -/
def proofExamplesWrong : ChangeSpec := { name := "proofExamples", fn := fun _ => fun
  | [] => { results := [.lit (.bool false)], args := [] }
  | _ => none }
def ProofExamplesWrongFalsely : Prop := proofExamplesRow.holds Tryd.pinned (OpenSpec.ofChange proofExamplesWrong)

/- THE SECOND FORM. 'bulk': how many values and letters a reading holds, each counted each time it is reached (what is shared counts as often as it is met; a slice's spare places count too). A statement '..UptoSaid' is the law's where the arguments, and the package variables that the reading takes, are together of bulk at most 1048576: NARROWER than '..Said'. Prove '..Said' where nothing that the law and all that it calls make is longer than what came in: it says more and counts as full. Else prove '..UptoSaid'. A law counts once. -/
mutual
def uptoBulk {H : Type} : DataW H → Nat
  | .lit (.string bytes) => bytes.length + 1
  | .lit _ => 1
  | .nil => 1
  | .ptr d => uptoBulk d + 1
  | .slice elems spare => uptoBulkAll elems + uptoBulkAll spare + 1
  | .agg parts => uptoBulkAll parts + 1
  | .iface _ d => uptoBulk d + 1
  | .map entries => uptoBulkEntries entries + 1
  | .held _ => 1
def uptoBulkAll {H : Type} : List (DataW H) → Nat
  | [] => 0
  | d :: r => uptoBulk d + uptoBulkAll r
def uptoBulkEntries {H : Type} : List (Lit × DataW H) → Nat
  | [] => 0
  | x :: r => uptoBulkEntry x + uptoBulkEntries r
def uptoBulkEntry {H : Type} : Lit × DataW H → Nat
  | (.string bytes, d) => bytes.length + uptoBulk d + 1
  | (_, d) => uptoBulk d + 1
 end
def uptoSmall : (H : Type) → List (DataW H) → Bool := fun _ ds => decide (uptoBulkAll ds ≤ 1048576)
def OpenSpec.upto (s : _root_.Go.ChangeSpec) : _root_.Go.OpenSpec := { _root_.Go.OpenSpec.ofChange s with cond := some uptoSmall }

/-- 'postillaw09.ProofTells', WHERE WHAT IT READS IS OF BULK AT MOST 1048576: true; the input reads as it did. -/
def proofTellsUptoRow : OpenClaim := { program := "ytgffhbbcpgdjjaadoor", sum := "9eab1c0d81ccbb1378de96232999fc45f8a6c1dcb368acaa8ba4b5a3c6a040ff", func := "postil/postillaw09.ProofTells", spec := "proofTells", unfollowed := true, recurses := true, named := ["postil/proof.sides"], plainKeys := false, apart := false, laid := [("postil/proof.sides", laid_postil_proof_sides)], narrowed := true }
def ProofTellsUptoSaid : Prop := proofTellsUptoRow.holds Tryd.pinned (OpenSpec.upto proofTellsSpec)

/-- 'postillaw09.ProofChiefs', WHERE WHAT IT READS IS OF BULK AT MOST 1048576: true; the input reads as it did. -/
def proofChiefsUptoRow : OpenClaim := { program := "ytgffhbbcpgdjjaadoor", sum := "9eab1c0d81ccbb1378de96232999fc45f8a6c1dcb368acaa8ba4b5a3c6a040ff", func := "postil/postillaw09.ProofChiefs", spec := "proofChiefs", unfollowed := true, recurses := true, named := ["postil/proof.sides"], plainKeys := false, apart := false, laid := [("postil/proof.sides", laid_postil_proof_sides)], narrowed := true }
def ProofChiefsUptoSaid : Prop := proofChiefsUptoRow.holds Tryd.pinned (OpenSpec.upto proofChiefsSpec)

/-- 'postillaw09.ProofExamples', WHERE WHAT IT READS IS OF BULK AT MOST 1048576: true; the input reads as it did. -/
def proofExamplesUptoRow : OpenClaim := { program := "ytgffhbbcpgdjjaadoor", sum := "9eab1c0d81ccbb1378de96232999fc45f8a6c1dcb368acaa8ba4b5a3c6a040ff", func := "postil/postillaw09.ProofExamples", spec := "proofExamples", unfollowed := true, recurses := true, named := ["postil/proof.sides"], plainKeys := false, apart := false, laid := [("postil/proof.sides", laid_postil_proof_sides)], narrowed := true }
def ProofExamplesUptoSaid : Prop := proofExamplesUptoRow.holds Tryd.pinned (OpenSpec.upto proofExamplesSpec)

end Rows
end Go.Proofs.YtgffhbbcpgdjjaaDoor
