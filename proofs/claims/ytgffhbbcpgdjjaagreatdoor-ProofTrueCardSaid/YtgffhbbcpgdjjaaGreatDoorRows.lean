/-
  NARROWER THAN 'FOR EVERY INPUT', by the rows' own cells (each row's printed sentence says how): ProofTrue: laid · ProofPages: laid.
  DERIVED. THE GIVEN ROWS OF THIS SEAT. 2 by the template 'for every input the law returns true; each argument reads behind the call as it read before'; 0 by the template 'total and deterministic' (their statements: YtgffhbbcpgdjjaaGreatDoorTotals.lean).
  GIVEN WITH THE SEED: the statements are not yours to turn. If you find one false, say at which input.
  Laid BY PROGRAM, IN A SANDBOX (cutbox-rows.mjs): the forced cells as the released guide's own fill.sh prints them over the translation b4e428a720ac8cae… (all of the seat's roots in one cut). By AI agents, Wed Nov 11 2026. No macro, syntax, notation, axiom, sorry.
-/
import Derived.Test.YtgffhbbcpgdjjaaGreatDoorChecked
import GoSem.Claim
import GoSem.ClaimJoined
import GoSem.ClaimMapViews
import Derived.JoinedTies
import Derived.KernelRfl
namespace Go.Proofs.YtgffhbbcpgdjjaaGreatDoor
/- THE CELL 'sum', in the pinned program and in every row, IS THE sha256 OF THE DUMP (.gsa) THAT YtgffhbbcpgdjjaaGreatDoorProg.lean LOADS. Nothing in Lean hashes anything: it is a label: what it is worth is what the hold of that sum in a sandbox is worth. -/
noncomputable def Tryz.pinned : Pinned := { name := "ytgffhbbcpgdjjaagreatdoor", sum := "b4e428a720ac8caeb54f3eac2c8aa779d274ea0a46a4279bdc209a329386b548", checked := Tryz.checked }
namespace Rows
def none {H : Type} : Left H := { results := [], args := [] }

/- WHAT THE LISTED PACKAGE-LEVEL VARIABLES READ AS WHEN THE CALL BEGINS. Each datum BY PROGRAM (the guide's laid-datum.mjs) off the statement by which the dump's own 'gosem.cut.vars' lays the variable. In a bare row this is a premise. The card (YtgffhbbcpgdjjaaGreatDoorCards.lean) ties it to the program's text. -/
def laid_postil_proof_sides {H : Type} : DataW H := .iface "func table" (.agg [.agg [.iface "func" (.lit (.string [112, 111, 115, 116, 105, 108, 47, 112, 114, 111, 111, 102, 46, 115, 105, 100, 101, 115, 36, 49])), .iface "func" (.lit (.string [112, 111, 115, 116, 105, 108, 47, 112, 114, 111, 111, 102, 46, 115, 105, 100, 101, 115, 36, 50])), .iface "func" (.lit (.string [112, 111, 115, 116, 105, 108, 47, 112, 114, 111, 111, 102, 46, 115, 105, 100, 101, 115, 36, 51]))], .agg [.iface "func" (.lit (.string [112, 111, 115, 116, 105, 108, 47, 112, 114, 111, 111, 102, 46, 115, 105, 100, 101, 115, 36, 52])), .iface "func" (.lit (.string [112, 111, 115, 116, 105, 108, 47, 112, 114, 111, 111, 102, 46, 115, 105, 100, 101, 115, 36, 53])), .iface "func" (.lit (.string [112, 111, 115, 116, 105, 108, 47, 112, 114, 111, 111, 102, 46, 115, 105, 100, 101, 115, 36, 54]))]])

/-- 'postillaw09.ProofTrue': WHATEVER THE INPUT: true; the input reads as it did. -/
def proofTrueSpec : ChangeSpec := { name := "proofTrue", fn := fun _ => fun
  | [d1, d2] => { results := [.lit (.bool true)], args := [d1, d2] }
  | _ => none }
def proofTrueRow : OpenClaim := { program := "ytgffhbbcpgdjjaagreatdoor", sum := "b4e428a720ac8caeb54f3eac2c8aa779d274ea0a46a4279bdc209a329386b548", func := "postil/postillaw09.ProofTrue", spec := "proofTrue", unfollowed := true, recurses := true, named := ["postil/proof.sides"], plainKeys := false, apart := false, laid := [("postil/proof.sides", laid_postil_proof_sides)] }
def ProofTrueSaid : Prop := proofTrueRow.holds Tryz.pinned (OpenSpec.ofChange proofTrueSpec)

/-- ITS FALSE NEIGHBOUR: 'it returns false'. Refute it at one input. -/
def proofTrueWrong : ChangeSpec := { name := "proofTrue", fn := fun _ => fun
  | [d1, d2] => { results := [.lit (.bool false)], args := [d1, d2] }
  | _ => none }
def ProofTrueWrongFalsely : Prop := proofTrueRow.holds Tryz.pinned (OpenSpec.ofChange proofTrueWrong)

/-- 'postillaw09.ProofPages': WHATEVER THE INPUT: true; the input reads as it did. -/
def proofPagesSpec : ChangeSpec := { name := "proofPages", fn := fun _ => fun
  | [d1, d2] => { results := [.lit (.bool true)], args := [d1, d2] }
  | _ => none }
def proofPagesRow : OpenClaim := { program := "ytgffhbbcpgdjjaagreatdoor", sum := "b4e428a720ac8caeb54f3eac2c8aa779d274ea0a46a4279bdc209a329386b548", func := "postil/postillaw09.ProofPages", spec := "proofPages", unfollowed := true, recurses := true, named := ["postil/proof.sides"], plainKeys := false, apart := false, laid := [("postil/proof.sides", laid_postil_proof_sides)] }
def ProofPagesSaid : Prop := proofPagesRow.holds Tryz.pinned (OpenSpec.ofChange proofPagesSpec)

/-- ITS FALSE NEIGHBOUR: 'it returns false'. Refute it at one input. -/
def proofPagesWrong : ChangeSpec := { name := "proofPages", fn := fun _ => fun
  | [d1, d2] => { results := [.lit (.bool false)], args := [d1, d2] }
  | _ => none }
def ProofPagesWrongFalsely : Prop := proofPagesRow.holds Tryz.pinned (OpenSpec.ofChange proofPagesWrong)

/- THE SECOND FORM. 'bulk': how many values and letters a reading holds, each counted each time it is reached (what is shared counts as often as it is met; a slice's spare places count too). A statement '..UptoSaid' is the law's where the arguments, and the package variables that the reading takes, are together of bulk at most 1048576: NARROWER than '..Said'. Prove '..Said' where nothing that the law and all that it calls make is longer than what came in: it says more and counts as full. Else prove '..UptoSaid'. A law counts once. -/
mutual
def uptoBulk {H : Type} : DataW H → Nat
  | .lit (.string bytes) => bytes.length + 1
  | .lit _ => 1
  | .nil => 1
  | .ptr d => uptoBulk d + 1
  | .slice elems spare => uptoBulkAll elems + uptoBulkAll spare + 1
  | .agg parts => uptoBulkAll parts + 1
  | .iface _ d => uptoBulk d + 1
  | .map entries => uptoBulkEntries entries + 1
  | .held _ => 1
def uptoBulkAll {H : Type} : List (DataW H) → Nat
  | [] => 0
  | d :: r => uptoBulk d + uptoBulkAll r
def uptoBulkEntries {H : Type} : List (Lit × DataW H) → Nat
  | [] => 0
  | x :: r => uptoBulkEntry x + uptoBulkEntries r
def uptoBulkEntry {H : Type} : Lit × DataW H → Nat
  | (.string bytes, d) => bytes.length + uptoBulk d + 1
  | (_, d) => uptoBulk d + 1
 end
def uptoSmall : (H : Type) → List (DataW H) → Bool := fun _ ds => decide (uptoBulkAll ds ≤ 1048576)
def OpenSpec.upto (s : _root_.Go.ChangeSpec) : _root_.Go.OpenSpec := { _root_.Go.OpenSpec.ofChange s with cond := some uptoSmall }

/-- 'postillaw09.ProofTrue', WHERE WHAT IT READS IS OF BULK AT MOST 1048576: true; the input reads as it did. -/
def proofTrueUptoRow : OpenClaim := { program := "ytgffhbbcpgdjjaagreatdoor", sum := "b4e428a720ac8caeb54f3eac2c8aa779d274ea0a46a4279bdc209a329386b548", func := "postil/postillaw09.ProofTrue", spec := "proofTrue", unfollowed := true, recurses := true, named := ["postil/proof.sides"], plainKeys := false, apart := false, laid := [("postil/proof.sides", laid_postil_proof_sides)], narrowed := true }
def ProofTrueUptoSaid : Prop := proofTrueUptoRow.holds Tryz.pinned (OpenSpec.upto proofTrueSpec)

/-- 'postillaw09.ProofPages', WHERE WHAT IT READS IS OF BULK AT MOST 1048576: true; the input reads as it did. -/
def proofPagesUptoRow : OpenClaim := { program := "ytgffhbbcpgdjjaagreatdoor", sum := "b4e428a720ac8caeb54f3eac2c8aa779d274ea0a46a4279bdc209a329386b548", func := "postil/postillaw09.ProofPages", spec := "proofPages", unfollowed := true, recurses := true, named := ["postil/proof.sides"], plainKeys := false, apart := false, laid := [("postil/proof.sides", laid_postil_proof_sides)], narrowed := true }
def ProofPagesUptoSaid : Prop := proofPagesUptoRow.holds Tryz.pinned (OpenSpec.upto proofPagesSpec)

end Rows
end Go.Proofs.YtgffhbbcpgdjjaaGreatDoor
