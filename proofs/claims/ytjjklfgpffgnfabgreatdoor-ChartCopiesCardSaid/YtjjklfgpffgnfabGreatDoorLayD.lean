/-
 The sorts of the library, as this program bears them; printed by a tool of the kit.
-/
import Derived.Shelf.SlicesE.DeleteFunc
import Derived.Test.YtjjklfgpffgnfabGreatDoorProg
namespace Go.Proofs.YtjjklfgpffgnfabGreatDoor
open Go.Shelf
def uoa : Go.Shelf.Ren := ⟨fun | 10 => 98 | 6 => 124 | n => n, fun | 22 => 87 | 23 => 9 | 25 => 162 | 3 => 3 | 4 => 4 | 0 => 0 | n => n, fun | n => n⟩
theorem uob : Go.Proofs.SlLaysH.n10 Tryz.prog uoa := {
 mixed := by kernel_rfl
 f6 := ⟨Tryz.f124.name, by decide, Tryz.func124.trans (congrArg some (by kernel_rfl))⟩
 f10 := ⟨Tryz.f98.name, by decide, Tryz.func98.trans (congrArg some (by kernel_rfl))⟩
 t0 := Tryz.underlying0
 a0 := Tryz.isAgg0
 z0 := Tryz.sizeOf0
 v0 := Tryz.zeroValue0
 t3 := Tryz.underlying3
 a3 := Tryz.isAgg3
 z3 := Tryz.sizeOf3
 v3 := Tryz.zeroValue3
 t4 := Tryz.underlying4
 a4 := Tryz.isAgg4
 z4 := Tryz.sizeOf4
 v4 := Tryz.zeroValue4
 t22 := Tryz.underlying87
 a22 := Tryz.isAgg87
 z22 := Tryz.sizeOf87
 v22 := Tryz.zeroValue87
 a23 := Tryz.isAgg9
 z23 := Tryz.sizeOf9
 t25 := Tryz.underlying162
 a25 := Tryz.isAgg162
 z25 := Tryz.sizeOf162
 v25 := Tryz.zeroValue162 }
end Go.Proofs.YtjjklfgpffgnfabGreatDoor
