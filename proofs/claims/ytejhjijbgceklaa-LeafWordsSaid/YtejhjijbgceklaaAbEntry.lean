/-
 m[k]++: an entry is taken, and stored.
-/
import Derived.Test.YtejhjijbgceklaaEngB
import Derived.Test.YtejhjijbgceklaaTy
import Derived.WideKeyEntry
namespace Go.AB
open Go Go.RowKit
open Go.Maps (Keyed)
section
variable {P : Program} {k t e : TypeId} {w : World} {r : Nat} {es : Array MapEntry} {clock : Nat}
end
section
variable {P : Program} {o : Oper} {st : St} {K : St → Prop} {α : Type} [KeyV α]
end
end Go.AB
