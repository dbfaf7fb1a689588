/-
 Contracts of the reference's functions of charts: references, and where they lead; both, too, from one edition to another one.
-/
import Derived.Test.YtejhjijbgceklaaGreatDoorEaPlain
namespace Go.AB
open Go Go.RowKit
open Go.PB (Chap TextD PlaceD ReadingD CopyD WayD)
theorem words_len {t : TextD} (ht : textB t = true) (p : L2) : ((wordsOf t p).getD []).length ≤ 10 := by
 cases h : wordsOf t p with
 | none => simp
 | some l => have := words_bd ht h; simp only [Option.getD_some]; omega
end Go.AB
namespace Go.Proofs.YtejhjijbgceklaaGreatDoor
set_option maxRecDepth 10000
open Go.RowKit Go.AB
open Go.AB.Enc (cells)
open Go.PB (Chap TextD PlaceD ReadingD CopyD WayD)
end Go.Proofs.YtejhjijbgceklaaGreatDoor
