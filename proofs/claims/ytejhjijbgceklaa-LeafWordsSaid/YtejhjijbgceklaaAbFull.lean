/-
 Slices without room: what is appended to them is copied.
-/
import Derived.Test.YtejhjijbgceklaaEngA
import Derived.Laws.Cover3
namespace Go.AB
open Go Go.RowKit
open Go.AB.Enc (cells)
section
variable {P : Program} {o : Oper} {st : St} {K : St → Prop}
end
section
variable {ρ : Option Nat} {P : Program} {st : St} {Q : Exit → St → Prop}
end
end Go.AB
