/-
 Readings by their places: what a map of them holds while it is made.
-/
import Derived.Test.YtejhjijbgceklaaHaCopy
import Derived.Test.YtejhjijbgceklaaHdKeys
import Derived.Test.YtejhjijbgceklaaAbGrow
namespace Go.AB
open Go Go.RowKit
open Go.AB.Enc (cells)
open Go.PB (Chap TextD PlaceD ReadingD CopyD WayD)
section
variable {P : Program} {kt rt : TypeId} {G0 : Nat → Option GObj} {M base : Nat} {rs : List ReadingD} {k : Nat} {r : ReadingD}
theorem mapV_low {α : Type} [KeyV α] {m : α → Option C} {k : Nat} (h : ∀ x c, m x = some c → c.low k) : ∀ v c, mapV m v = some c → c.low k := fun v c hv => by
 by_cases hex : ∃ y : α, v = KeyV.kv y
 ·obtain ⟨y, rfl⟩ := hex
  rw [mapV_kv] at hv
  exact h y c hv
 ·rw [mapV_none _ hex] at hv; cases hv
end
end Go.AB
