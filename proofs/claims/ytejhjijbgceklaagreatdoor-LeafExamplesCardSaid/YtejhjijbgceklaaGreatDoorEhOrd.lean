/-
 Lines of an edition in their order; equality of lines; what sorts them.
-/
import Derived.Test.YtejhjijbgceklaaGreatDoorEgComp
import Derived.Test.YtejhjijbgceklaaGreatDoorEaPlain
import Derived.Test.YtejhjijbgceklaaGreatDoorGrpD
import Derived.Test.YtejhjijbgceklaaGreatDoorLay
import Derived.ChangeKeysEq
namespace Go.AB
open Go Go.RowKit
open Go.AB.Enc (cells)
open Go.PB (Chap TextD PlaceD ReadingD CopyD WayD)
theorem nodup_len {α : Type} [DecidableEq α] : ∀ {l m : List α}, l.Nodup → (∀ x ∈ l, x ∈ m) → l.length ≤ m.length
 | [], _, _, _ => Nat.zero_le _
 | x :: l, m, hn, hs => by
  rw [List.nodup_cons] at hn
  have h1 := hs x (List.mem_cons_self ..)
  have h2 := nodup_len (l := l) (m := m.erase x) hn.2 fun y hy => (List.mem_erase_of_ne fun (e : y = x) => hn.1 (e ▸ hy)).2 (hs y (List.mem_cons_of_mem _ hy))
  rw [List.length_erase_of_mem h1] at h2
  have := List.length_pos_of_mem h1
  simp only [List.length_cons]
  omega
end Go.AB
namespace Go.Proofs.YtejhjijbgceklaaGreatDoor
set_option maxRecDepth 10000
open Go.RowKit Go.AB
open Go.AB.Enc (cells)
open Go.PB (Chap TextD PlaceD ReadingD CopyD WayD)
end Go.Proofs.YtejhjijbgceklaaGreatDoor
