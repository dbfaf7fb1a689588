/-
  NARROWER THAN 'FOR EVERY INPUT', by the rows' own cells (each row's printed sentence says how): ChartBack: laid · ChartGaps: laid · ChartClosest: laid · ChartCross: laid · ChartChain: laid · ChartJoin: laid · ChartPlain: laid · ChartSplit: laid · ChartClash: laid.
  DERIVED. THE GIVEN ROWS OF THIS SEAT. 9 by the template 'for every input the law returns true; each argument reads behind the call as it read before'; 0 by the template 'total and deterministic' (their statements: YtjjklfgpffgnfaaGreatDoorTotals.lean).
  GIVEN WITH THE SEED: the statements are not yours to turn. If you find one false, say at which input.
  Laid BY PROGRAM, IN A SANDBOX (cutbox-rows.mjs): the forced cells as the released guide's own fill.sh prints them over the translation 1d67a49287580272… (all of the seat's roots in one cut). By AI agents, Wed Nov 11 2026. No macro, syntax, notation, axiom, sorry.
-/
import Derived.Test.YtjjklfgpffgnfaaGreatDoorChecked
import GoSem.Claim
import GoSem.ClaimJoined
import GoSem.ClaimMapViews
import Derived.JoinedTies
import Derived.KernelRfl
namespace Go.Proofs.YtjjklfgpffgnfaaGreatDoor
/- THE CELL 'sum', in the pinned program and in every row, IS THE sha256 OF THE DUMP (.gsa) THAT YtjjklfgpffgnfaaGreatDoorProg.lean LOADS. Nothing in Lean hashes anything: it is a label: what it is worth is what the hold of that sum in a sandbox is worth. -/
noncomputable def Tryz.pinned : Pinned := { name := "ytjjklfgpffgnfaagreatdoor", sum := "1d67a49287580272bddbb8cf0f845887eb831c05a7202171f7556ee29fbbb750", checked := Tryz.checked }
namespace Rows
def none {H : Type} : Left H := { results := [], args := [] }

/- WHAT THE LISTED PACKAGE-LEVEL VARIABLES READ AS WHEN THE CALL BEGINS. Each datum BY PROGRAM (the guide's laid-datum.mjs) off the statement by which the dump's own 'gosem.cut.vars' lays the variable. In a bare row this is a premise. The card (YtjjklfgpffgnfaaGreatDoorCards.lean) ties it to the program's text. -/
def laid_postil_chart_checks {H : Type} : DataW H := .iface "func table" (.agg [.agg [.iface "func" (.lit (.string [112, 111, 115, 116, 105, 108, 47, 99, 104, 97, 114, 116, 46, 99, 104, 101, 99, 107, 115, 36, 49]))], .agg [.iface "func" (.lit (.string [112, 111, 115, 116, 105, 108, 47, 99, 104, 97, 114, 116, 46, 99, 104, 101, 99, 107, 115, 36, 50]))], .agg [.iface "func" (.lit (.string [112, 111, 115, 116, 105, 108, 47, 99, 104, 97, 114, 116, 46, 99, 104, 101, 99, 107, 115, 36, 51]))]])

/-- 'postillaw02.ChartBack': WHATEVER THE INPUT: true; the input reads as it did. -/
def chartBackSpec : ChangeSpec := { name := "chartBack", fn := fun _ => fun
  | [d1, d2, d3, d4, d5, d6] => { results := [.lit (.bool true)], args := [d1, d2, d3, d4, d5, d6] }
  | _ => none }
def chartBackRow : OpenClaim := { program := "ytjjklfgpffgnfaagreatdoor", sum := "1d67a49287580272bddbb8cf0f845887eb831c05a7202171f7556ee29fbbb750", func := "postil/postillaw02.ChartBack", spec := "chartBack", unfollowed := true, recurses := true, named := ["postil/chart.checks"], plainKeys := false, apart := false, laid := [("postil/chart.checks", laid_postil_chart_checks)] }
def ChartBackSaid : Prop := chartBackRow.holds Tryz.pinned (OpenSpec.ofChange chartBackSpec)

/-- ITS FALSE NEIGHBOUR: 'it returns false'. Refute it at one input. -/
def chartBackWrong : ChangeSpec := { name := "chartBack", fn := fun _ => fun
  | [d1, d2, d3, d4, d5, d6] => { results := [.lit (.bool false)], args := [d1, d2, d3, d4, d5, d6] }
  | _ => none }
def ChartBackWrongFalsely : Prop := chartBackRow.holds Tryz.pinned (OpenSpec.ofChange chartBackWrong)

/-- 'postillaw02.ChartGaps': WHATEVER THE INPUT: true; the input reads as it did. -/
def chartGapsSpec : ChangeSpec := { name := "chartGaps", fn := fun _ => fun
  | [d1, d2, d3, d4, d5] => { results := [.lit (.bool true)], args := [d1, d2, d3, d4, d5] }
  | _ => none }
def chartGapsRow : OpenClaim := { program := "ytjjklfgpffgnfaagreatdoor", sum := "1d67a49287580272bddbb8cf0f845887eb831c05a7202171f7556ee29fbbb750", func := "postil/postillaw02.ChartGaps", spec := "chartGaps", unfollowed := true, recurses := true, named := ["postil/chart.checks"], plainKeys := false, apart := false, laid := [("postil/chart.checks", laid_postil_chart_checks)] }
def ChartGapsSaid : Prop := chartGapsRow.holds Tryz.pinned (OpenSpec.ofChange chartGapsSpec)

/-- ITS FALSE NEIGHBOUR: 'it returns false'. Refute it at one input. -/
def chartGapsWrong : ChangeSpec := { name := "chartGaps", fn := fun _ => fun
  | [d1, d2, d3, d4, d5] => { results := [.lit (.bool false)], args := [d1, d2, d3, d4, d5] }
  | _ => none }
def ChartGapsWrongFalsely : Prop := chartGapsRow.holds Tryz.pinned (OpenSpec.ofChange chartGapsWrong)

/-- 'postillaw02.ChartClosest': WHATEVER THE INPUT: true; the input reads as it did. -/
def chartClosestSpec : ChangeSpec := { name := "chartClosest", fn := fun _ => fun
  | [d1, d2, d3, d4, d5, d6] => { results := [.lit (.bool true)], args := [d1, d2, d3, d4, d5, d6] }
  | _ => none }
def chartClosestRow : OpenClaim := { program := "ytjjklfgpffgnfaagreatdoor", sum := "1d67a49287580272bddbb8cf0f845887eb831c05a7202171f7556ee29fbbb750", func := "postil/postillaw02.ChartClosest", spec := "chartClosest", unfollowed := true, recurses := true, named := ["postil/chart.checks"], plainKeys := false, apart := false, laid := [("postil/chart.checks", laid_postil_chart_checks)] }
def ChartClosestSaid : Prop := chartClosestRow.holds Tryz.pinned (OpenSpec.ofChange chartClosestSpec)

/-- ITS FALSE NEIGHBOUR: 'it returns false'. Refute it at one input. -/
def chartClosestWrong : ChangeSpec := { name := "chartClosest", fn := fun _ => fun
  | [d1, d2, d3, d4, d5, d6] => { results := [.lit (.bool false)], args := [d1, d2, d3, d4, d5, d6] }
  | _ => none }
def ChartClosestWrongFalsely : Prop := chartClosestRow.holds Tryz.pinned (OpenSpec.ofChange chartClosestWrong)

/-- 'postillaw02.ChartCross': WHATEVER THE INPUT: true; the input reads as it did. -/
def chartCrossSpec : ChangeSpec := { name := "chartCross", fn := fun _ => fun
  | [d1, d2, d3, d4, d5, d6] => { results := [.lit (.bool true)], args := [d1, d2, d3, d4, d5, d6] }
  | _ => none }
def chartCrossRow : OpenClaim := { program := "ytjjklfgpffgnfaagreatdoor", sum := "1d67a49287580272bddbb8cf0f845887eb831c05a7202171f7556ee29fbbb750", func := "postil/postillaw02.ChartCross", spec := "chartCross", unfollowed := true, recurses := true, named := ["postil/chart.checks"], plainKeys := false, apart := false, laid := [("postil/chart.checks", laid_postil_chart_checks)] }
def ChartCrossSaid : Prop := chartCrossRow.holds Tryz.pinned (OpenSpec.ofChange chartCrossSpec)

/-- ITS FALSE NEIGHBOUR: 'it returns false'. Refute it at one input. -/
def chartCrossWrong : ChangeSpec := { name := "chartCross", fn := fun _ => fun
  | [d1, d2, d3, d4, d5, d6] => { results := [.lit (.bool false)], args := [d1, d2, d3, d4, d5, d6] }
  | _ => none }
def ChartCrossWrongFalsely : Prop := chartCrossRow.holds Tryz.pinned (OpenSpec.ofChange chartCrossWrong)

/-- 'postillaw02.ChartChain': WHATEVER THE INPUT: true; the input reads as it did. -/
def chartChainSpec : ChangeSpec := { name := "chartChain", fn := fun _ => fun
  | [d1, d2, d3, d4, d5] => { results := [.lit (.bool true)], args := [d1, d2, d3, d4, d5] }
  | _ => none }
def chartChainRow : OpenClaim := { program := "ytjjklfgpffgnfaagreatdoor", sum := "1d67a49287580272bddbb8cf0f845887eb831c05a7202171f7556ee29fbbb750", func := "postil/postillaw02.ChartChain", spec := "chartChain", unfollowed := true, recurses := true, named := ["postil/chart.checks"], plainKeys := false, apart := false, laid := [("postil/chart.checks", laid_postil_chart_checks)] }
def ChartChainSaid : Prop := chartChainRow.holds Tryz.pinned (OpenSpec.ofChange chartChainSpec)

/-- ITS FALSE NEIGHBOUR: 'it returns false'. Refute it at one input. -/
def chartChainWrong : ChangeSpec := { name := "chartChain", fn := fun _ => fun
  | [d1, d2, d3, d4, d5] => { results := [.lit (.bool false)], args := [d1, d2, d3, d4, d5] }
  | _ => none }
def ChartChainWrongFalsely : Prop := chartChainRow.holds Tryz.pinned (OpenSpec.ofChange chartChainWrong)

/-- 'postillaw02.ChartJoin': WHATEVER THE INPUT: true; the input reads as it did. -/
def chartJoinSpec : ChangeSpec := { name := "chartJoin", fn := fun _ => fun
  | [d1, d2, d3, d4, d5, d6, d7] => { results := [.lit (.bool true)], args := [d1, d2, d3, d4, d5, d6, d7] }
  | _ => none }
def chartJoinRow : OpenClaim := { program := "ytjjklfgpffgnfaagreatdoor", sum := "1d67a49287580272bddbb8cf0f845887eb831c05a7202171f7556ee29fbbb750", func := "postil/postillaw02.ChartJoin", spec := "chartJoin", unfollowed := true, recurses := true, named := ["postil/chart.checks"], plainKeys := false, apart := false, laid := [("postil/chart.checks", laid_postil_chart_checks)] }
def ChartJoinSaid : Prop := chartJoinRow.holds Tryz.pinned (OpenSpec.ofChange chartJoinSpec)

/-- ITS FALSE NEIGHBOUR: 'it returns false'. Refute it at one input. -/
def chartJoinWrong : ChangeSpec := { name := "chartJoin", fn := fun _ => fun
  | [d1, d2, d3, d4, d5, d6, d7] => { results := [.lit (.bool false)], args := [d1, d2, d3, d4, d5, d6, d7] }
  | _ => none }
def ChartJoinWrongFalsely : Prop := chartJoinRow.holds Tryz.pinned (OpenSpec.ofChange chartJoinWrong)

/-- 'postillaw02.ChartPlain': WHATEVER THE INPUT: true; the input reads as it did. -/
def chartPlainSpec : ChangeSpec := { name := "chartPlain", fn := fun _ => fun
  | [d1, d2, d3, d4, d5, d6] => { results := [.lit (.bool true)], args := [d1, d2, d3, d4, d5, d6] }
  | _ => none }
def chartPlainRow : OpenClaim := { program := "ytjjklfgpffgnfaagreatdoor", sum := "1d67a49287580272bddbb8cf0f845887eb831c05a7202171f7556ee29fbbb750", func := "postil/postillaw02.ChartPlain", spec := "chartPlain", unfollowed := true, recurses := true, named := ["postil/chart.checks"], plainKeys := false, apart := false, laid := [("postil/chart.checks", laid_postil_chart_checks)] }
def ChartPlainSaid : Prop := chartPlainRow.holds Tryz.pinned (OpenSpec.ofChange chartPlainSpec)

/-- ITS FALSE NEIGHBOUR: 'it returns false'. Refute it at one input. -/
def chartPlainWrong : ChangeSpec := { name := "chartPlain", fn := fun _ => fun
  | [d1, d2, d3, d4, d5, d6] => { results := [.lit (.bool false)], args := [d1, d2, d3, d4, d5, d6] }
  | _ => none }
def ChartPlainWrongFalsely : Prop := chartPlainRow.holds Tryz.pinned (OpenSpec.ofChange chartPlainWrong)

/-- 'postillaw02.ChartSplit': WHATEVER THE INPUT: true; the input reads as it did. -/
def chartSplitSpec : ChangeSpec := { name := "chartSplit", fn := fun _ => fun
  | [d1, d2, d3, d4, d5, d6, d7, d8] => { results := [.lit (.bool true)], args := [d1, d2, d3, d4, d5, d6, d7, d8] }
  | _ => none }
def chartSplitRow : OpenClaim := { program := "ytjjklfgpffgnfaagreatdoor", sum := "1d67a49287580272bddbb8cf0f845887eb831c05a7202171f7556ee29fbbb750", func := "postil/postillaw02.ChartSplit", spec := "chartSplit", unfollowed := true, recurses := true, named := ["postil/chart.checks"], plainKeys := false, apart := false, laid := [("postil/chart.checks", laid_postil_chart_checks)] }
def ChartSplitSaid : Prop := chartSplitRow.holds Tryz.pinned (OpenSpec.ofChange chartSplitSpec)

/-- ITS FALSE NEIGHBOUR: 'it returns false'. Refute it at one input. -/
def chartSplitWrong : ChangeSpec := { name := "chartSplit", fn := fun _ => fun
  | [d1, d2, d3, d4, d5, d6, d7, d8] => { results := [.lit (.bool false)], args := [d1, d2, d3, d4, d5, d6, d7, d8] }
  | _ => none }
def ChartSplitWrongFalsely : Prop := chartSplitRow.holds Tryz.pinned (OpenSpec.ofChange chartSplitWrong)

/-- 'postillaw02.ChartClash': WHATEVER THE INPUT: true; the input reads as it did. -/
def chartClashSpec : ChangeSpec := { name := "chartClash", fn := fun _ => fun
  | [d1, d2, d3] => { results := [.lit (.bool true)], args := [d1, d2, d3] }
  | _ => none }
def chartClashRow : OpenClaim := { program := "ytjjklfgpffgnfaagreatdoor", sum := "1d67a49287580272bddbb8cf0f845887eb831c05a7202171f7556ee29fbbb750", func := "postil/postillaw02.ChartClash", spec := "chartClash", unfollowed := true, recurses := true, named := ["postil/chart.checks"], plainKeys := false, apart := false, laid := [("postil/chart.checks", laid_postil_chart_checks)] }
def ChartClashSaid : Prop := chartClashRow.holds Tryz.pinned (OpenSpec.ofChange chartClashSpec)

/-- ITS FALSE NEIGHBOUR: 'it returns false'. Refute it at one input. -/
def chartClashWrong : ChangeSpec := { name := "chartClash", fn := fun _ => fun
  | [d1, d2, d3] => { results := [.lit (.bool false)], args := [d1, d2, d3] }
  | _ => none }
def ChartClashWrongFalsely : Prop := chartClashRow.holds Tryz.pinned (OpenSpec.ofChange chartClashWrong)

/- THE SECOND FORM. 'bulk': how many values and letters a reading holds, each counted each time it is reached (what is shared counts as often as it is met; a slice's spare places count too). A statement '..UptoSaid' is the law's where the arguments, and the package variables that the reading takes, are together of bulk at most 1048576: NARROWER than '..Said'. Prove '..Said' where nothing that the law and all that it calls make is longer than what came in: it says more and counts as full. Else prove '..UptoSaid'. A law counts once. -/
mutual
def uptoBulk {H : Type} : DataW H → Nat
  | .lit (.string bytes) => bytes.length + 1
  | .lit _ => 1
  | .nil => 1
  | .ptr d => uptoBulk d + 1
  | .slice elems spare => uptoBulkAll elems + uptoBulkAll spare + 1
  | .agg parts => uptoBulkAll parts + 1
  | .iface _ d => uptoBulk d + 1
  | .map entries => uptoBulkEntries entries + 1
  | .held _ => 1
def uptoBulkAll {H : Type} : List (DataW H) → Nat
  | [] => 0
  | d :: r => uptoBulk d + uptoBulkAll r
def uptoBulkEntries {H : Type} : List (Lit × DataW H) → Nat
  | [] => 0
  | x :: r => uptoBulkEntry x + uptoBulkEntries r
def uptoBulkEntry {H : Type} : Lit × DataW H → Nat
  | (.string bytes, d) => bytes.length + uptoBulk d + 1
  | (_, d) => uptoBulk d + 1
 end
def uptoSmall : (H : Type) → List (DataW H) → Bool := fun _ ds => decide (uptoBulkAll ds ≤ 1048576)
def OpenSpec.upto (s : _root_.Go.ChangeSpec) : _root_.Go.OpenSpec := { _root_.Go.OpenSpec.ofChange s with cond := some uptoSmall }

/-- 'postillaw02.ChartBack', WHERE WHAT IT READS IS OF BULK AT MOST 1048576: true; the input reads as it did. -/
def chartBackUptoRow : OpenClaim := { program := "ytjjklfgpffgnfaagreatdoor", sum := "1d67a49287580272bddbb8cf0f845887eb831c05a7202171f7556ee29fbbb750", func := "postil/postillaw02.ChartBack", spec := "chartBack", unfollowed := true, recurses := true, named := ["postil/chart.checks"], plainKeys := false, apart := false, laid := [("postil/chart.checks", laid_postil_chart_checks)], narrowed := true }
def ChartBackUptoSaid : Prop := chartBackUptoRow.holds Tryz.pinned (OpenSpec.upto chartBackSpec)

/-- 'postillaw02.ChartGaps', WHERE WHAT IT READS IS OF BULK AT MOST 1048576: true; the input reads as it did. -/
def chartGapsUptoRow : OpenClaim := { program := "ytjjklfgpffgnfaagreatdoor", sum := "1d67a49287580272bddbb8cf0f845887eb831c05a7202171f7556ee29fbbb750", func := "postil/postillaw02.ChartGaps", spec := "chartGaps", unfollowed := true, recurses := true, named := ["postil/chart.checks"], plainKeys := false, apart := false, laid := [("postil/chart.checks", laid_postil_chart_checks)], narrowed := true }
def ChartGapsUptoSaid : Prop := chartGapsUptoRow.holds Tryz.pinned (OpenSpec.upto chartGapsSpec)

/-- 'postillaw02.ChartClosest', WHERE WHAT IT READS IS OF BULK AT MOST 1048576: true; the input reads as it did. -/
def chartClosestUptoRow : OpenClaim := { program := "ytjjklfgpffgnfaagreatdoor", sum := "1d67a49287580272bddbb8cf0f845887eb831c05a7202171f7556ee29fbbb750", func := "postil/postillaw02.ChartClosest", spec := "chartClosest", unfollowed := true, recurses := true, named := ["postil/chart.checks"], plainKeys := false, apart := false, laid := [("postil/chart.checks", laid_postil_chart_checks)], narrowed := true }
def ChartClosestUptoSaid : Prop := chartClosestUptoRow.holds Tryz.pinned (OpenSpec.upto chartClosestSpec)

/-- 'postillaw02.ChartCross', WHERE WHAT IT READS IS OF BULK AT MOST 1048576: true; the input reads as it did. -/
def chartCrossUptoRow : OpenClaim := { program := "ytjjklfgpffgnfaagreatdoor", sum := "1d67a49287580272bddbb8cf0f845887eb831c05a7202171f7556ee29fbbb750", func := "postil/postillaw02.ChartCross", spec := "chartCross", unfollowed := true, recurses := true, named := ["postil/chart.checks"], plainKeys := false, apart := false, laid := [("postil/chart.checks", laid_postil_chart_checks)], narrowed := true }
def ChartCrossUptoSaid : Prop := chartCrossUptoRow.holds Tryz.pinned (OpenSpec.upto chartCrossSpec)

/-- 'postillaw02.ChartChain', WHERE WHAT IT READS IS OF BULK AT MOST 1048576: true; the input reads as it did. -/
def chartChainUptoRow : OpenClaim := { program := "ytjjklfgpffgnfaagreatdoor", sum := "1d67a49287580272bddbb8cf0f845887eb831c05a7202171f7556ee29fbbb750", func := "postil/postillaw02.ChartChain", spec := "chartChain", unfollowed := true, recurses := true, named := ["postil/chart.checks"], plainKeys := false, apart := false, laid := [("postil/chart.checks", laid_postil_chart_checks)], narrowed := true }
def ChartChainUptoSaid : Prop := chartChainUptoRow.holds Tryz.pinned (OpenSpec.upto chartChainSpec)

/-- 'postillaw02.ChartJoin', WHERE WHAT IT READS IS OF BULK AT MOST 1048576: true; the input reads as it did. -/
def chartJoinUptoRow : OpenClaim := { program := "ytjjklfgpffgnfaagreatdoor", sum := "1d67a49287580272bddbb8cf0f845887eb831c05a7202171f7556ee29fbbb750", func := "postil/postillaw02.ChartJoin", spec := "chartJoin", unfollowed := true, recurses := true, named := ["postil/chart.checks"], plainKeys := false, apart := false, laid := [("postil/chart.checks", laid_postil_chart_checks)], narrowed := true }
def ChartJoinUptoSaid : Prop := chartJoinUptoRow.holds Tryz.pinned (OpenSpec.upto chartJoinSpec)

/-- 'postillaw02.ChartPlain', WHERE WHAT IT READS IS OF BULK AT MOST 1048576: true; the input reads as it did. -/
def chartPlainUptoRow : OpenClaim := { program := "ytjjklfgpffgnfaagreatdoor", sum := "1d67a49287580272bddbb8cf0f845887eb831c05a7202171f7556ee29fbbb750", func := "postil/postillaw02.ChartPlain", spec := "chartPlain", unfollowed := true, recurses := true, named := ["postil/chart.checks"], plainKeys := false, apart := false, laid := [("postil/chart.checks", laid_postil_chart_checks)], narrowed := true }
def ChartPlainUptoSaid : Prop := chartPlainUptoRow.holds Tryz.pinned (OpenSpec.upto chartPlainSpec)

/-- 'postillaw02.ChartSplit', WHERE WHAT IT READS IS OF BULK AT MOST 1048576: true; the input reads as it did. -/
def chartSplitUptoRow : OpenClaim := { program := "ytjjklfgpffgnfaagreatdoor", sum := "1d67a49287580272bddbb8cf0f845887eb831c05a7202171f7556ee29fbbb750", func := "postil/postillaw02.ChartSplit", spec := "chartSplit", unfollowed := true, recurses := true, named := ["postil/chart.checks"], plainKeys := false, apart := false, laid := [("postil/chart.checks", laid_postil_chart_checks)], narrowed := true }
def ChartSplitUptoSaid : Prop := chartSplitUptoRow.holds Tryz.pinned (OpenSpec.upto chartSplitSpec)

/-- 'postillaw02.ChartClash', WHERE WHAT IT READS IS OF BULK AT MOST 1048576: true; the input reads as it did. -/
def chartClashUptoRow : OpenClaim := { program := "ytjjklfgpffgnfaagreatdoor", sum := "1d67a49287580272bddbb8cf0f845887eb831c05a7202171f7556ee29fbbb750", func := "postil/postillaw02.ChartClash", spec := "chartClash", unfollowed := true, recurses := true, named := ["postil/chart.checks"], plainKeys := false, apart := false, laid := [("postil/chart.checks", laid_postil_chart_checks)], narrowed := true }
def ChartClashUptoSaid : Prop := chartClashUptoRow.holds Tryz.pinned (OpenSpec.upto chartClashSpec)

end Rows
end Go.Proofs.YtjjklfgpffgnfaaGreatDoor
