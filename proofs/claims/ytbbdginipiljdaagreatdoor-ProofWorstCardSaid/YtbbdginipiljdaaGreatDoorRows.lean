/-
  NARROWER THAN 'FOR EVERY INPUT', by the rows' own cells (each row's printed sentence says how): ProofLeaves: laid · ProofTrue: laid · ProofEnds: laid · ProofWorst: laid · ProofWhy: laid · ProofChief: laid.
  DERIVED. THE GIVEN ROWS OF THIS SEAT. 6 by the template 'for every input the law returns true; each argument reads behind the call as it read before'; 0 by the template 'total and deterministic' (their statements: YtbbdginipiljdaaGreatDoorTotals.lean).
  GIVEN WITH THE SEED: the statements are not yours to turn. If you find one false, say at which input.
  Laid BY PROGRAM, IN A SANDBOX (cutbox-rows.mjs): the forced cells as the released guide's own fill.sh prints them over the translation e2e2d92cbc7a5853… (all of the seat's roots in one cut). By AI agents, Wed Nov 11 2026. No macro, syntax, notation, axiom, sorry.
-/
import Derived.Test.YtbbdginipiljdaaGreatDoorChecked
import GoSem.Claim
import GoSem.ClaimJoined
import GoSem.ClaimMapViews
import Derived.JoinedTies
import Derived.KernelRfl
namespace Go.Proofs.YtbbdginipiljdaaGreatDoor
/- THE CELL 'sum', in the pinned program and in every row, IS THE sha256 OF THE DUMP (.gsa) THAT YtbbdginipiljdaaGreatDoorProg.lean LOADS. Nothing in Lean hashes anything: it is a label: what it is worth is what the hold of that sum in a sandbox is worth. -/
noncomputable def Tryz.pinned : Pinned := { name := "ytbbdginipiljdaagreatdoor", sum := "e2e2d92cbc7a58538a0fc83baca03997e71602a5726dd5f66c0837fadc97323c", checked := Tryz.checked }
namespace Rows
def none {H : Type} : Left H := { results := [], args := [] }

/- WHAT THE LISTED PACKAGE-LEVEL VARIABLES READ AS WHEN THE CALL BEGINS. Each datum BY PROGRAM (the guide's laid-datum.mjs) off the statement by which the dump's own 'gosem.cut.vars' lays the variable. In a bare row this is a premise. The card (YtbbdginipiljdaaGreatDoorCards.lean) ties it to the program's text. -/
def laid_postil_proof_sides {H : Type} : DataW H := .iface "func table" (.agg [.agg [.iface "func" (.lit (.string [112, 111, 115, 116, 105, 108, 47, 112, 114, 111, 111, 102, 46, 115, 105, 100, 101, 115, 36, 49])), .iface "func" (.lit (.string [112, 111, 115, 116, 105, 108, 47, 112, 114, 111, 111, 102, 46, 115, 105, 100, 101, 115, 36, 50])), .iface "func" (.lit (.string [112, 111, 115, 116, 105, 108, 47, 112, 114, 111, 111, 102, 46, 115, 105, 100, 101, 115, 36, 51]))], .agg [.iface "func" (.lit (.string [112, 111, 115, 116, 105, 108, 47, 112, 114, 111, 111, 102, 46, 115, 105, 100, 101, 115, 36, 52])), .iface "func" (.lit (.string [112, 111, 115, 116, 105, 108, 47, 112, 114, 111, 111, 102, 46, 115, 105, 100, 101, 115, 36, 53])), .iface "func" (.lit (.string [112, 111, 115, 116, 105, 108, 47, 112, 114, 111, 111, 102, 46, 115, 105, 100, 101, 115, 36, 54]))]])

/-- 'postillaw09.ProofLeaves': WHATEVER THE INPUT: true; the input reads as it did. -/
def proofLeavesSpec : ChangeSpec := { name := "proofLeaves", fn := fun _ => fun
  | [d1, d2] => { results := [.lit (.bool true)], args := [d1, d2] }
  | _ => none }
def proofLeavesRow : OpenClaim := { program := "ytbbdginipiljdaagreatdoor", sum := "e2e2d92cbc7a58538a0fc83baca03997e71602a5726dd5f66c0837fadc97323c", func := "postil/postillaw09.ProofLeaves", spec := "proofLeaves", unfollowed := true, recurses := true, named := ["postil/proof.sides"], plainKeys := false, apart := false, laid := [("postil/proof.sides", laid_postil_proof_sides)] }
def ProofLeavesSaid : Prop := proofLeavesRow.holds Tryz.pinned (OpenSpec.ofChange proofLeavesSpec)

/-- ITS FALSE NEIGHBOUR: 'it returns false'. Refute it at one input. -/
def proofLeavesWrong : ChangeSpec := { name := "proofLeaves", fn := fun _ => fun
  | [d1, d2] => { results := [.lit (.bool false)], args := [d1, d2] }
  | _ => none }
def ProofLeavesWrongFalsely : Prop := proofLeavesRow.holds Tryz.pinned (OpenSpec.ofChange proofLeavesWrong)

/-- 'postillaw09.ProofTrue': WHATEVER THE INPUT: true; the input reads as it did. -/
def proofTrueSpec : ChangeSpec := { name := "proofTrue", fn := fun _ => fun
  | [d1, d2] => { results := [.lit (.bool true)], args := [d1, d2] }
  | _ => none }
def proofTrueRow : OpenClaim := { program := "ytbbdginipiljdaagreatdoor", sum := "e2e2d92cbc7a58538a0fc83baca03997e71602a5726dd5f66c0837fadc97323c", func := "postil/postillaw09.ProofTrue", spec := "proofTrue", unfollowed := true, recurses := true, named := ["postil/proof.sides"], plainKeys := false, apart := false, laid := [("postil/proof.sides", laid_postil_proof_sides)] }
def ProofTrueSaid : Prop := proofTrueRow.holds Tryz.pinned (OpenSpec.ofChange proofTrueSpec)

/-- ITS FALSE NEIGHBOUR: 'it returns false'. Refute it at one input. -/
def proofTrueWrong : ChangeSpec := { name := "proofTrue", fn := fun _ => fun
  | [d1, d2] => { results := [.lit (.bool false)], args := [d1, d2] }
  | _ => none }
def ProofTrueWrongFalsely : Prop := proofTrueRow.holds Tryz.pinned (OpenSpec.ofChange proofTrueWrong)

/-- 'postillaw09.ProofEnds': WHATEVER THE INPUT: true; the input reads as it did. -/
def proofEndsSpec : ChangeSpec := { name := "proofEnds", fn := fun _ => fun
  | [d1, d2] => { results := [.lit (.bool true)], args := [d1, d2] }
  | _ => none }
def proofEndsRow : OpenClaim := { program := "ytbbdginipiljdaagreatdoor", sum := "e2e2d92cbc7a58538a0fc83baca03997e71602a5726dd5f66c0837fadc97323c", func := "postil/postillaw09.ProofEnds", spec := "proofEnds", unfollowed := true, recurses := true, named := ["postil/proof.sides"], plainKeys := false, apart := false, laid := [("postil/proof.sides", laid_postil_proof_sides)] }
def ProofEndsSaid : Prop := proofEndsRow.holds Tryz.pinned (OpenSpec.ofChange proofEndsSpec)

/-- ITS FALSE NEIGHBOUR: 'it returns false'. Refute it at one input. -/
def proofEndsWrong : ChangeSpec := { name := "proofEnds", fn := fun _ => fun
  | [d1, d2] => { results := [.lit (.bool false)], args := [d1, d2] }
  | _ => none }
def ProofEndsWrongFalsely : Prop := proofEndsRow.holds Tryz.pinned (OpenSpec.ofChange proofEndsWrong)

/-- 'postillaw09.ProofWorst': WHATEVER THE INPUT: true; the input reads as it did. -/
def proofWorstSpec : ChangeSpec := { name := "proofWorst", fn := fun _ => fun
  | [d1, d2] => { results := [.lit (.bool true)], args := [d1, d2] }
  | _ => none }
def proofWorstRow : OpenClaim := { program := "ytbbdginipiljdaagreatdoor", sum := "e2e2d92cbc7a58538a0fc83baca03997e71602a5726dd5f66c0837fadc97323c", func := "postil/postillaw09.ProofWorst", spec := "proofWorst", unfollowed := true, recurses := true, named := ["postil/proof.sides"], plainKeys := false, apart := false, laid := [("postil/proof.sides", laid_postil_proof_sides)] }
def ProofWorstSaid : Prop := proofWorstRow.holds Tryz.pinned (OpenSpec.ofChange proofWorstSpec)

/-- ITS FALSE NEIGHBOUR: 'it returns false'. Refute it at one input. -/
def proofWorstWrong : ChangeSpec := { name := "proofWorst", fn := fun _ => fun
  | [d1, d2] => { results := [.lit (.bool false)], args := [d1, d2] }
  | _ => none }
def ProofWorstWrongFalsely : Prop := proofWorstRow.holds Tryz.pinned (OpenSpec.ofChange proofWorstWrong)

/-- 'postillaw09.ProofWhy': WHATEVER THE INPUT: true; the input reads as it did. -/
def proofWhySpec : ChangeSpec := { name := "proofWhy", fn := fun _ => fun
  | [d1, d2] => { results := [.lit (.bool true)], args := [d1, d2] }
  | _ => none }
def proofWhyRow : OpenClaim := { program := "ytbbdginipiljdaagreatdoor", sum := "e2e2d92cbc7a58538a0fc83baca03997e71602a5726dd5f66c0837fadc97323c", func := "postil/postillaw09.ProofWhy", spec := "proofWhy", unfollowed := true, recurses := true, named := ["postil/proof.sides"], plainKeys := false, apart := false, laid := [("postil/proof.sides", laid_postil_proof_sides)] }
def ProofWhySaid : Prop := proofWhyRow.holds Tryz.pinned (OpenSpec.ofChange proofWhySpec)

/-- ITS FALSE NEIGHBOUR: 'it returns false'. Refute it at one input. -/
def proofWhyWrong : ChangeSpec := { name := "proofWhy", fn := fun _ => fun
  | [d1, d2] => { results := [.lit (.bool false)], args := [d1, d2] }
  | _ => none }
def ProofWhyWrongFalsely : Prop := proofWhyRow.holds Tryz.pinned (OpenSpec.ofChange proofWhyWrong)

/-- 'postillaw09.ProofChief': WHATEVER THE INPUT: true; the input reads as it did. -/
def proofChiefSpec : ChangeSpec := { name := "proofChief", fn := fun _ => fun
  | [d1, d2, d3] => { results := [.lit (.bool true)], args := [d1, d2, d3] }
  | _ => none }
def proofChiefRow : OpenClaim := { program := "ytbbdginipiljdaagreatdoor", sum := "e2e2d92cbc7a58538a0fc83baca03997e71602a5726dd5f66c0837fadc97323c", func := "postil/postillaw09.ProofChief", spec := "proofChief", unfollowed := true, recurses := true, named := ["postil/proof.sides"], plainKeys := false, apart := false, laid := [("postil/proof.sides", laid_postil_proof_sides)] }
def ProofChiefSaid : Prop := proofChiefRow.holds Tryz.pinned (OpenSpec.ofChange proofChiefSpec)

/-- ITS FALSE NEIGHBOUR: 'it returns false'. Refute it at one input. -/
def proofChiefWrong : ChangeSpec := { name := "proofChief", fn := fun _ => fun
  | [d1, d2, d3] => { results := [.lit (.bool false)], args := [d1, d2, d3] }
  | _ => none }
def ProofChiefWrongFalsely : Prop := proofChiefRow.holds Tryz.pinned (OpenSpec.ofChange proofChiefWrong)

/- THE SECOND FORM. 'bulk': how many values and letters a reading holds, each counted each time it is reached (what is shared counts as often as it is met; a slice's spare places count too). A statement '..UptoSaid' is the law's where the arguments, and the package variables that the reading takes, are together of bulk at most 1048576: NARROWER than '..Said'. Prove '..Said' where nothing that the law and all that it calls make is longer than what came in: it says more and counts as full. Else prove '..UptoSaid'. A law counts once. -/
mutual
def uptoBulk {H : Type} : DataW H → Nat
  | .lit (.string bytes) => bytes.length + 1
  | .lit _ => 1
  | .nil => 1
  | .ptr d => uptoBulk d + 1
  | .slice elems spare => uptoBulkAll elems + uptoBulkAll spare + 1
  | .agg parts => uptoBulkAll parts + 1
  | .iface _ d => uptoBulk d + 1
  | .map entries => uptoBulkEntries entries + 1
  | .held _ => 1
def uptoBulkAll {H : Type} : List (DataW H) → Nat
  | [] => 0
  | d :: r => uptoBulk d + uptoBulkAll r
def uptoBulkEntries {H : Type} : List (Lit × DataW H) → Nat
  | [] => 0
  | x :: r => uptoBulkEntry x + uptoBulkEntries r
def uptoBulkEntry {H : Type} : Lit × DataW H → Nat
  | (.string bytes, d) => bytes.length + uptoBulk d + 1
  | (_, d) => uptoBulk d + 1
 end
def uptoSmall : (H : Type) → List (DataW H) → Bool := fun _ ds => decide (uptoBulkAll ds ≤ 1048576)
def OpenSpec.upto (s : _root_.Go.ChangeSpec) : _root_.Go.OpenSpec := { _root_.Go.OpenSpec.ofChange s with cond := some uptoSmall }

/-- 'postillaw09.ProofLeaves', WHERE WHAT IT READS IS OF BULK AT MOST 1048576: true; the input reads as it did. -/
def proofLeavesUptoRow : OpenClaim := { program := "ytbbdginipiljdaagreatdoor", sum := "e2e2d92cbc7a58538a0fc83baca03997e71602a5726dd5f66c0837fadc97323c", func := "postil/postillaw09.ProofLeaves", spec := "proofLeaves", unfollowed := true, recurses := true, named := ["postil/proof.sides"], plainKeys := false, apart := false, laid := [("postil/proof.sides", laid_postil_proof_sides)], narrowed := true }
def ProofLeavesUptoSaid : Prop := proofLeavesUptoRow.holds Tryz.pinned (OpenSpec.upto proofLeavesSpec)

/-- 'postillaw09.ProofTrue', WHERE WHAT IT READS IS OF BULK AT MOST 1048576: true; the input reads as it did. -/
def proofTrueUptoRow : OpenClaim := { program := "ytbbdginipiljdaagreatdoor", sum := "e2e2d92cbc7a58538a0fc83baca03997e71602a5726dd5f66c0837fadc97323c", func := "postil/postillaw09.ProofTrue", spec := "proofTrue", unfollowed := true, recurses := true, named := ["postil/proof.sides"], plainKeys := false, apart := false, laid := [("postil/proof.sides", laid_postil_proof_sides)], narrowed := true }
def ProofTrueUptoSaid : Prop := proofTrueUptoRow.holds Tryz.pinned (OpenSpec.upto proofTrueSpec)

/-- 'postillaw09.ProofEnds', WHERE WHAT IT READS IS OF BULK AT MOST 1048576: true; the input reads as it did. -/
def proofEndsUptoRow : OpenClaim := { program := "ytbbdginipiljdaagreatdoor", sum := "e2e2d92cbc7a58538a0fc83baca03997e71602a5726dd5f66c0837fadc97323c", func := "postil/postillaw09.ProofEnds", spec := "proofEnds", unfollowed := true, recurses := true, named := ["postil/proof.sides"], plainKeys := false, apart := false, laid := [("postil/proof.sides", laid_postil_proof_sides)], narrowed := true }
def ProofEndsUptoSaid : Prop := proofEndsUptoRow.holds Tryz.pinned (OpenSpec.upto proofEndsSpec)

/-- 'postillaw09.ProofWorst', WHERE WHAT IT READS IS OF BULK AT MOST 1048576: true; the input reads as it did. -/
def proofWorstUptoRow : OpenClaim := { program := "ytbbdginipiljdaagreatdoor", sum := "e2e2d92cbc7a58538a0fc83baca03997e71602a5726dd5f66c0837fadc97323c", func := "postil/postillaw09.ProofWorst", spec := "proofWorst", unfollowed := true, recurses := true, named := ["postil/proof.sides"], plainKeys := false, apart := false, laid := [("postil/proof.sides", laid_postil_proof_sides)], narrowed := true }
def ProofWorstUptoSaid : Prop := proofWorstUptoRow.holds Tryz.pinned (OpenSpec.upto proofWorstSpec)

/-- 'postillaw09.ProofWhy', WHERE WHAT IT READS IS OF BULK AT MOST 1048576: true; the input reads as it did. -/
def proofWhyUptoRow : OpenClaim := { program := "ytbbdginipiljdaagreatdoor", sum := "e2e2d92cbc7a58538a0fc83baca03997e71602a5726dd5f66c0837fadc97323c", func := "postil/postillaw09.ProofWhy", spec := "proofWhy", unfollowed := true, recurses := true, named := ["postil/proof.sides"], plainKeys := false, apart := false, laid := [("postil/proof.sides", laid_postil_proof_sides)], narrowed := true }
def ProofWhyUptoSaid : Prop := proofWhyUptoRow.holds Tryz.pinned (OpenSpec.upto proofWhySpec)

/-- 'postillaw09.ProofChief', WHERE WHAT IT READS IS OF BULK AT MOST 1048576: true; the input reads as it did. -/
def proofChiefUptoRow : OpenClaim := { program := "ytbbdginipiljdaagreatdoor", sum := "e2e2d92cbc7a58538a0fc83baca03997e71602a5726dd5f66c0837fadc97323c", func := "postil/postillaw09.ProofChief", spec := "proofChief", unfollowed := true, recurses := true, named := ["postil/proof.sides"], plainKeys := false, apart := false, laid := [("postil/proof.sides", laid_postil_proof_sides)], narrowed := true }
def ProofChiefUptoSaid : Prop := proofChiefUptoRow.holds Tryz.pinned (OpenSpec.upto proofChiefSpec)

end Rows
end Go.Proofs.YtbbdginipiljdaaGreatDoor
