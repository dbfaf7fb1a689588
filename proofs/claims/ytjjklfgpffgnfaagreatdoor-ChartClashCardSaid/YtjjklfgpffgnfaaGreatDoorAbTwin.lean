/-
 A slice that is copied: what is copied is owned.
-/
import Derived.Test.YtjjklfgpffgnfaaGreatDoorEngB
namespace Go.AB
open Go Go.RowKit
open Go.AB.Enc (cells)
section
variable {P : Program} {o : Oper} {st : St} {K : St → Prop}
end
end Go.AB
