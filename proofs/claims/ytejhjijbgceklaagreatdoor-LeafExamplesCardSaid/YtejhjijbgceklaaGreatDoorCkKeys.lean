/-
 Keys: numbers; lines.
-/
import Derived.Test.YtejhjijbgceklaaGreatDoorAbTypes
import Derived.Maps.Own
import Derived.Tactics
import Derived.WalkMore
namespace Go.Proofs.YtejhjijbgceklaaGreatDoor
set_option maxRecDepth 10000
open Go Go.RowKit Go.AB
theorem laidOutK : laidOutB Tryz.prog = true := by kernel_rfl
theorem manyTypesK : ∃ m, Tryz.prog.types.size = m + 3 := ⟨Tryz.prog.types.size - 3, by have : 3 ≤ Tryz.prog.types.size := of_decide_eq_true (by kernel_rfl); omega⟩
theorem uIntK : Tryz.prog.underlying 3 = some (.int .i64) := by kernel_rfl
instance : KeyT Tryz.prog 3 Int where
 keyed := Go.Maps.int_keyed uIntK
 has {E w x v} h := ⟨.int .i64 x, by
  have h1 := lit_i64 (key_i64 h)
  simp [keyOf, mapKey, uIntK, KeyV.kv, h1]⟩
end Go.Proofs.YtejhjijbgceklaaGreatDoor
