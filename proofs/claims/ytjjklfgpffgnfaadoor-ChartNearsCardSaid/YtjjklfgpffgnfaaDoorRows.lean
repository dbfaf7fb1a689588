/-
  NARROWER THAN 'FOR EVERY INPUT', by the rows' own cells (each row's printed sentence says how): ChartTells: laid · ChartChanges: laid · ChartRefers: laid · ChartNears: laid.
  DERIVED. THE GIVEN ROWS OF THIS SEAT. 4 by the template 'for every input the law returns true; each argument reads behind the call as it read before'; 0 by the template 'total and deterministic' (their statements: YtjjklfgpffgnfaaDoorTotals.lean).
  GIVEN WITH THE SEED: the statements are not yours to turn. If you find one false, say at which input.
  Laid BY PROGRAM, IN A SANDBOX (cutbox-rows.mjs): the forced cells as the released guide's own fill.sh prints them over the translation 7068a0d75b9b8fb4… (all of the seat's roots in one cut). By AI agents, Wed Nov 11 2026. No macro, syntax, notation, axiom, sorry.
-/
import Derived.Test.YtjjklfgpffgnfaaDoorChecked
import GoSem.Claim
import GoSem.ClaimJoined
import GoSem.ClaimMapViews
import Derived.JoinedTies
import Derived.KernelRfl
namespace Go.Proofs.YtjjklfgpffgnfaaDoor
/- THE CELL 'sum', in the pinned program and in every row, IS THE sha256 OF THE DUMP (.gsa) THAT YtjjklfgpffgnfaaDoorProg.lean LOADS. Nothing in Lean hashes anything: it is a label: what it is worth is what the hold of that sum in a sandbox is worth. -/
noncomputable def Tryd.pinned : Pinned := { name := "ytjjklfgpffgnfaadoor", sum := "7068a0d75b9b8fb4b7f8b128beaa9c11476e3c611a293df68309516d0e4d1315", checked := Tryd.checked }
namespace Rows
def none {H : Type} : Left H := { results := [], args := [] }

/- WHAT THE LISTED PACKAGE-LEVEL VARIABLES READ AS WHEN THE CALL BEGINS. Each datum BY PROGRAM (the guide's laid-datum.mjs) off the statement by which the dump's own 'gosem.cut.vars' lays the variable. In a bare row this is a premise. The card (YtjjklfgpffgnfaaDoorCards.lean) ties it to the program's text. -/
def laid_postil_chart_checks {H : Type} : DataW H := .iface "func table" (.agg [.agg [.iface "func" (.lit (.string [112, 111, 115, 116, 105, 108, 47, 99, 104, 97, 114, 116, 46, 99, 104, 101, 99, 107, 115, 36, 49]))], .agg [.iface "func" (.lit (.string [112, 111, 115, 116, 105, 108, 47, 99, 104, 97, 114, 116, 46, 99, 104, 101, 99, 107, 115, 36, 50]))], .agg [.iface "func" (.lit (.string [112, 111, 115, 116, 105, 108, 47, 99, 104, 97, 114, 116, 46, 99, 104, 101, 99, 107, 115, 36, 51]))]])

/-- 'postillaw02.ChartTells': WHATEVER THE INPUT: true; the input reads as it did. -/
def chartTellsSpec : ChangeSpec := { name := "chartTells", fn := fun _ => fun
  | [d1, d2] => { results := [.lit (.bool true)], args := [d1, d2] }
  | _ => none }
def chartTellsRow : OpenClaim := { program := "ytjjklfgpffgnfaadoor", sum := "7068a0d75b9b8fb4b7f8b128beaa9c11476e3c611a293df68309516d0e4d1315", func := "postil/postillaw02.ChartTells", spec := "chartTells", unfollowed := true, recurses := true, named := ["postil/chart.checks"], plainKeys := false, apart := false, laid := [("postil/chart.checks", laid_postil_chart_checks)] }
def ChartTellsSaid : Prop := chartTellsRow.holds Tryd.pinned (OpenSpec.ofChange chartTellsSpec)

/-- ITS FALSE NEIGHBOUR: 'it returns false'. Refute it at one input. -/
def chartTellsWrong : ChangeSpec := { name := "chartTells", fn := fun _ => fun
  | [d1, d2] => { results := [.lit (.bool false)], args := [d1, d2] }
  | _ => none }
def ChartTellsWrongFalsely : Prop := chartTellsRow.holds Tryd.pinned (OpenSpec.ofChange chartTellsWrong)

/-- 'postillaw02.ChartChanges': WHATEVER THE INPUT: true; the input reads as it did. -/
def chartChangesSpec : ChangeSpec := { name := "chartChanges", fn := fun _ => fun
  | [d1, d2, d3, d4, d5] => { results := [.lit (.bool true)], args := [d1, d2, d3, d4, d5] }
  | _ => none }
def chartChangesRow : OpenClaim := { program := "ytjjklfgpffgnfaadoor", sum := "7068a0d75b9b8fb4b7f8b128beaa9c11476e3c611a293df68309516d0e4d1315", func := "postil/postillaw02.ChartChanges", spec := "chartChanges", unfollowed := true, recurses := true, named := ["postil/chart.checks"], plainKeys := false, apart := false, laid := [("postil/chart.checks", laid_postil_chart_checks)] }
def ChartChangesSaid : Prop := chartChangesRow.holds Tryd.pinned (OpenSpec.ofChange chartChangesSpec)

/-- ITS FALSE NEIGHBOUR: 'it returns false'. Refute it at one input. -/
def chartChangesWrong : ChangeSpec := { name := "chartChanges", fn := fun _ => fun
  | [d1, d2, d3, d4, d5] => { results := [.lit (.bool false)], args := [d1, d2, d3, d4, d5] }
  | _ => none }
def ChartChangesWrongFalsely : Prop := chartChangesRow.holds Tryd.pinned (OpenSpec.ofChange chartChangesWrong)

/-- 'postillaw02.ChartRefers': WHATEVER THE INPUT: true; the input reads as it did. -/
def chartRefersSpec : ChangeSpec := { name := "chartRefers", fn := fun _ => fun
  | [d1, d2, d3, d4, d5] => { results := [.lit (.bool true)], args := [d1, d2, d3, d4, d5] }
  | _ => none }
def chartRefersRow : OpenClaim := { program := "ytjjklfgpffgnfaadoor", sum := "7068a0d75b9b8fb4b7f8b128beaa9c11476e3c611a293df68309516d0e4d1315", func := "postil/postillaw02.ChartRefers", spec := "chartRefers", unfollowed := true, recurses := true, named := ["postil/chart.checks"], plainKeys := false, apart := false, laid := [("postil/chart.checks", laid_postil_chart_checks)] }
def ChartRefersSaid : Prop := chartRefersRow.holds Tryd.pinned (OpenSpec.ofChange chartRefersSpec)

/-- ITS FALSE NEIGHBOUR: 'it returns false'. Refute it at one input. -/
def chartRefersWrong : ChangeSpec := { name := "chartRefers", fn := fun _ => fun
  | [d1, d2, d3, d4, d5] => { results := [.lit (.bool false)], args := [d1, d2, d3, d4, d5] }
  | _ => none }
def ChartRefersWrongFalsely : Prop := chartRefersRow.holds Tryd.pinned (OpenSpec.ofChange chartRefersWrong)

/-- 'postillaw02.ChartNears': WHATEVER THE INPUT: true; the input reads as it did. -/
def chartNearsSpec : ChangeSpec := { name := "chartNears", fn := fun _ => fun
  | [d1, d2, d3, d4] => { results := [.lit (.bool true)], args := [d1, d2, d3, d4] }
  | _ => none }
def chartNearsRow : OpenClaim := { program := "ytjjklfgpffgnfaadoor", sum := "7068a0d75b9b8fb4b7f8b128beaa9c11476e3c611a293df68309516d0e4d1315", func := "postil/postillaw02.ChartNears", spec := "chartNears", unfollowed := true, recurses := true, named := ["postil/chart.checks"], plainKeys := false, apart := false, laid := [("postil/chart.checks", laid_postil_chart_checks)] }
def ChartNearsSaid : Prop := chartNearsRow.holds Tryd.pinned (OpenSpec.ofChange chartNearsSpec)

/-- ITS FALSE NEIGHBOUR: 'it returns false'. Refute it at one input. -/
def chartNearsWrong : ChangeSpec := { name := "chartNears", fn := fun _ => fun
  | [d1, d2, d3, d4] => { results := [.lit (.bool false)], args := [d1, d2, d3, d4] }
  | _ => none }
def ChartNearsWrongFalsely : Prop := chartNearsRow.holds Tryd.pinned (OpenSpec.ofChange chartNearsWrong)

/- THE SECOND FORM. 'bulk': how many values and letters a reading holds, each counted each time it is reached (what is shared counts as often as it is met; a slice's spare places count too). A statement '..UptoSaid' is the law's where the arguments, and the package variables that the reading takes, are together of bulk at most 1048576: NARROWER than '..Said'. Prove '..Said' where nothing that the law and all that it calls make is longer than what came in: it says more and counts as full. Else prove '..UptoSaid'. A law counts once. -/
mutual
def uptoBulk {H : Type} : DataW H → Nat
  | .lit (.string bytes) => bytes.length + 1
  | .lit _ => 1
  | .nil => 1
  | .ptr d => uptoBulk d + 1
  | .slice elems spare => uptoBulkAll elems + uptoBulkAll spare + 1
  | .agg parts => uptoBulkAll parts + 1
  | .iface _ d => uptoBulk d + 1
  | .map entries => uptoBulkEntries entries + 1
  | .held _ => 1
def uptoBulkAll {H : Type} : List (DataW H) → Nat
  | [] => 0
  | d :: r => uptoBulk d + uptoBulkAll r
def uptoBulkEntries {H : Type} : List (Lit × DataW H) → Nat
  | [] => 0
  | x :: r => uptoBulkEntry x + uptoBulkEntries r
def uptoBulkEntry {H : Type} : Lit × DataW H → Nat
  | (.string bytes, d) => bytes.length + uptoBulk d + 1
  | (_, d) => uptoBulk d + 1
 end
def uptoSmall : (H : Type) → List (DataW H) → Bool := fun _ ds => decide (uptoBulkAll ds ≤ 1048576)
def OpenSpec.upto (s : _root_.Go.ChangeSpec) : _root_.Go.OpenSpec := { _root_.Go.OpenSpec.ofChange s with cond := some uptoSmall }

/-- 'postillaw02.ChartTells', WHERE WHAT IT READS IS OF BULK AT MOST 1048576: true; the input reads as it did. -/
def chartTellsUptoRow : OpenClaim := { program := "ytjjklfgpffgnfaadoor", sum := "7068a0d75b9b8fb4b7f8b128beaa9c11476e3c611a293df68309516d0e4d1315", func := "postil/postillaw02.ChartTells", spec := "chartTells", unfollowed := true, recurses := true, named := ["postil/chart.checks"], plainKeys := false, apart := false, laid := [("postil/chart.checks", laid_postil_chart_checks)], narrowed := true }
def ChartTellsUptoSaid : Prop := chartTellsUptoRow.holds Tryd.pinned (OpenSpec.upto chartTellsSpec)

/-- 'postillaw02.ChartChanges', WHERE WHAT IT READS IS OF BULK AT MOST 1048576: true; the input reads as it did. -/
def chartChangesUptoRow : OpenClaim := { program := "ytjjklfgpffgnfaadoor", sum := "7068a0d75b9b8fb4b7f8b128beaa9c11476e3c611a293df68309516d0e4d1315", func := "postil/postillaw02.ChartChanges", spec := "chartChanges", unfollowed := true, recurses := true, named := ["postil/chart.checks"], plainKeys := false, apart := false, laid := [("postil/chart.checks", laid_postil_chart_checks)], narrowed := true }
def ChartChangesUptoSaid : Prop := chartChangesUptoRow.holds Tryd.pinned (OpenSpec.upto chartChangesSpec)

/-- 'postillaw02.ChartRefers', WHERE WHAT IT READS IS OF BULK AT MOST 1048576: true; the input reads as it did. -/
def chartRefersUptoRow : OpenClaim := { program := "ytjjklfgpffgnfaadoor", sum := "7068a0d75b9b8fb4b7f8b128beaa9c11476e3c611a293df68309516d0e4d1315", func := "postil/postillaw02.ChartRefers", spec := "chartRefers", unfollowed := true, recurses := true, named := ["postil/chart.checks"], plainKeys := false, apart := false, laid := [("postil/chart.checks", laid_postil_chart_checks)], narrowed := true }
def ChartRefersUptoSaid : Prop := chartRefersUptoRow.holds Tryd.pinned (OpenSpec.upto chartRefersSpec)

/-- 'postillaw02.ChartNears', WHERE WHAT IT READS IS OF BULK AT MOST 1048576: true; the input reads as it did. -/
def chartNearsUptoRow : OpenClaim := { program := "ytjjklfgpffgnfaadoor", sum := "7068a0d75b9b8fb4b7f8b128beaa9c11476e3c611a293df68309516d0e4d1315", func := "postil/postillaw02.ChartNears", spec := "chartNears", unfollowed := true, recurses := true, named := ["postil/chart.checks"], plainKeys := false, apart := false, laid := [("postil/chart.checks", laid_postil_chart_checks)], narrowed := true }
def ChartNearsUptoSaid : Prop := chartNearsUptoRow.holds Tryd.pinned (OpenSpec.upto chartNearsSpec)

end Rows
end Go.Proofs.YtjjklfgpffgnfaaDoor
