/-
 Contracts: comparisons of numbers, of rows of numbers.
-/
import Derived.Test.YtejhjijbgceklaaAbSort
import Derived.Test.YtejhjijbgceklaaGrpA
namespace Go.AB
open Go Go.RowKit
open Go.AB.Enc (cells)
/-- words of the same length, one behind the other -/
def ltW : List Int → List Int → Prop
 | x :: a, y :: b => x < y ∨ x = y ∧ ltW a b
 | _, _ => False
end Go.AB
namespace Go.Proofs.Ytejhjijbgceklaa
set_option maxRecDepth 10000
open Go.RowKit Go.AB
open Go.AB.Enc (cells)
end Go.Proofs.Ytejhjijbgceklaa
