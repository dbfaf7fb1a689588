/-
  What the walks through the program rest on: values, states, steps, calls (FbWords, FcNear, FdNear, KzWords).
-/
import Derived.Test.YtejhjijbgceklaaGreatDoorEdLead
import Derived.Test.YtejhjijbgceklaaGreatDoorGrpX
import Derived.Test.YtejhjijbgceklaaGreatDoorGrpC
import Derived.Test.YtejhjijbgceklaaGreatDoorAbFull
import Derived.Test.YtejhjijbgceklaaGreatDoorEhOrd
namespace Go.AB
open Go Go.RowKit
open Go.AB.Enc (cells)
open Go.PB (Chap TextD PlaceD ReadingD CopyD WayD)
end Go.AB
namespace Go.Proofs.YtejhjijbgceklaaGreatDoor
set_option maxRecDepth 10000
open Go.RowKit Go.AB
open Go.AB.Enc (cells)
open Go.PB (Chap TextD PlaceD ReadingD CopyD WayD)
/-! ### What is beside something -/
end Go.Proofs.YtejhjijbgceklaaGreatDoor
namespace Go.AB
open Go Go.RowKit
open Go.AB.Enc (cells)
open Go.PB (Chap TextD PlaceD ReadingD CopyD WayD)
end Go.AB
namespace Go.Proofs.YtejhjijbgceklaaGreatDoor
set_option maxRecDepth 10000
open Go.RowKit Go.AB
open Go.AB.Enc (cells)
open Go.PB (Chap TextD PlaceD ReadingD CopyD WayD)
end Go.Proofs.YtejhjijbgceklaaGreatDoor
namespace Go.AB
open Go Go.RowKit
open Go.AB.Enc (cells)
open Go.PB (Chap TextD PlaceD ReadingD CopyD WayD)
end Go.AB
namespace Go.Proofs.YtejhjijbgceklaaGreatDoor
set_option maxRecDepth 10000
open Go.RowKit Go.AB
open Go.AB.Enc (cells)
open Go.PB (Chap TextD PlaceD ReadingD CopyD WayD)
end Go.Proofs.YtejhjijbgceklaaGreatDoor
namespace Go.AB
open Go Go.RowKit
open Go.PB (Chap TextD PlaceD ReadingD CopyD WayD)
theorem place_bd {t : TextD} {p : PlaceD} (ht : textB t = true) (hp : placeB t p = true) : (0 ≤ p.ch ∧ p.ch ≤ 5) ∧ (0 ≤ p.ln ∧ p.ln ≤ 9) ∧ 0 ≤ p.wd ∧ p.wd ≤ 9 := by
 obtain ⟨l, hw, h1, h2⟩ := placeB_true.1 hp
 have hl := words_bd ht hw
 dsimp only at hl
 omega
end Go.AB
