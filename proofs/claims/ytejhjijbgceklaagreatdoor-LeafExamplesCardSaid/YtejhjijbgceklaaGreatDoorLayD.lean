/-
 The sorts of the library, as this program bears them; printed by a tool of the kit.
-/
import Derived.Shelf.SlicesE.DeleteFunc
import Derived.Test.YtejhjijbgceklaaGreatDoorProg
namespace Go.Proofs.YtejhjijbgceklaaGreatDoor
open Go.Shelf
def del_string_ren : Go.Shelf.Ren := ⟨fun | 10 => 68 | 6 => 83 | n => n, fun | 22 => 43 | 23 => 9 | 25 => 96 | 3 => 3 | 4 => 4 | 0 => 0 | n => n, fun | n => n⟩
theorem del_string : Go.Proofs.SlLaysH.n10 Tryz.prog del_string_ren := {
 mixed := by kernel_rfl
 f6 := ⟨Tryz.f83.name, by decide, Tryz.func83.trans (congrArg some (by kernel_rfl))⟩
 f10 := ⟨Tryz.f68.name, by decide, Tryz.func68.trans (congrArg some (by kernel_rfl))⟩
 t0 := Tryz.underlying0
 a0 := Tryz.isAgg0
 z0 := Tryz.sizeOf0
 v0 := Tryz.zeroValue0
 t3 := Tryz.underlying3
 a3 := Tryz.isAgg3
 z3 := Tryz.sizeOf3
 v3 := Tryz.zeroValue3
 t4 := Tryz.underlying4
 a4 := Tryz.isAgg4
 z4 := Tryz.sizeOf4
 v4 := Tryz.zeroValue4
 t22 := Tryz.underlying43
 a22 := Tryz.isAgg43
 z22 := Tryz.sizeOf43
 v22 := Tryz.zeroValue43
 a23 := Tryz.isAgg9
 z23 := Tryz.sizeOf9
 t25 := Tryz.underlying96
 a25 := Tryz.isAgg96
 z25 := Tryz.sizeOf96
 v25 := Tryz.zeroValue96 }
end Go.Proofs.YtejhjijbgceklaaGreatDoor
