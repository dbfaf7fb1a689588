/-
 The sorts of the library, as this program bears them; printed by a tool of the kit.
-/
import Derived.Shelf.SlicesE.DeleteFunc
import Derived.Test.YtejhjijbgceklaaDoorProg
namespace Go.Proofs.YtejhjijbgceklaaDoor
open Go.Shelf
def del_string_ren : Go.Shelf.Ren := ⟨fun | 10 => 72 | 6 => 91 | n => n, fun | 22 => 56 | 23 => 9 | 25 => 106 | 3 => 3 | 4 => 4 | 0 => 0 | n => n, fun | n => n⟩
theorem del_string : Go.Proofs.SlLaysH.n10 Tryd.prog del_string_ren := {
 mixed := by kernel_rfl
 f6 := ⟨Tryd.f91.name, by decide, Tryd.func91.trans (congrArg some (by kernel_rfl))⟩
 f10 := ⟨Tryd.f72.name, by decide, Tryd.func72.trans (congrArg some (by kernel_rfl))⟩
 t0 := Tryd.underlying0
 a0 := Tryd.isAgg0
 z0 := Tryd.sizeOf0
 v0 := Tryd.zeroValue0
 t3 := Tryd.underlying3
 a3 := Tryd.isAgg3
 z3 := Tryd.sizeOf3
 v3 := Tryd.zeroValue3
 t4 := Tryd.underlying4
 a4 := Tryd.isAgg4
 z4 := Tryd.sizeOf4
 v4 := Tryd.zeroValue4
 t22 := Tryd.underlying56
 a22 := Tryd.isAgg56
 z22 := Tryd.sizeOf56
 v22 := Tryd.zeroValue56
 a23 := Tryd.isAgg9
 z23 := Tryd.sizeOf9
 t25 := Tryd.underlying106
 a25 := Tryd.isAgg106
 z25 := Tryd.sizeOf106
 v25 := Tryd.zeroValue106 }
end Go.Proofs.YtejhjijbgceklaaDoor
