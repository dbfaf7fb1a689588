/-
 Keys: numbers; lines.
-/
import Derived.Test.YtejhjijbgceklaaAbTypes
import Derived.Maps.Own
import Derived.Tactics
import Derived.WalkMore
namespace Go.Proofs.Ytejhjijbgceklaa
set_option maxRecDepth 10000
open Go Go.RowKit Go.AB
theorem laidOutK : laidOutB Try.prog = true := by kernel_rfl
theorem uIntK : Try.prog.underlying 3 = some (.int .i64) := by kernel_rfl
instance : KeyT Try.prog 3 Int where
 keyed := Go.Maps.int_keyed uIntK
 has {E w x v} h := ⟨.int .i64 x, by
  have h1 := lit_i64 (key_i64 h)
  simp [keyOf, mapKey, uIntK, KeyV.kv, h1]⟩
end Go.Proofs.Ytejhjijbgceklaa
