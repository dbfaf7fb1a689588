/-
  What the walks through the program rest on: values, states, steps, calls (FbWords, FcNear, FdNear, KzWords).
-/
import Derived.Test.YtejhjijbgceklaaDoorEdLead
import Derived.Test.YtejhjijbgceklaaDoorGrpX
import Derived.Test.YtejhjijbgceklaaDoorGrpC
import Derived.Test.YtejhjijbgceklaaDoorAbFull
import Derived.Test.YtejhjijbgceklaaDoorEhOrd
namespace Go.AB
open Go Go.RowKit
open Go.AB.Enc (cells)
open Go.PB (Chap TextD PlaceD ReadingD CopyD WayD)
end Go.AB
namespace Go.Proofs.YtejhjijbgceklaaDoor
set_option maxRecDepth 10000
open Go.RowKit Go.AB
open Go.AB.Enc (cells)
open Go.PB (Chap TextD PlaceD ReadingD CopyD WayD)
/-! ### What is beside something -/
end Go.Proofs.YtejhjijbgceklaaDoor
namespace Go.AB
open Go Go.RowKit
open Go.AB.Enc (cells)
open Go.PB (Chap TextD PlaceD ReadingD CopyD WayD)
end Go.AB
namespace Go.Proofs.YtejhjijbgceklaaDoor
set_option maxRecDepth 10000
open Go.RowKit Go.AB
open Go.AB.Enc (cells)
open Go.PB (Chap TextD PlaceD ReadingD CopyD WayD)
end Go.Proofs.YtejhjijbgceklaaDoor
namespace Go.AB
open Go Go.RowKit
open Go.AB.Enc (cells)
open Go.PB (Chap TextD PlaceD ReadingD CopyD WayD)
end Go.AB
namespace Go.Proofs.YtejhjijbgceklaaDoor
set_option maxRecDepth 10000
open Go.RowKit Go.AB
open Go.AB.Enc (cells)
open Go.PB (Chap TextD PlaceD ReadingD CopyD WayD)
end Go.Proofs.YtejhjijbgceklaaDoor
namespace Go.AB
open Go Go.RowKit
open Go.PB (Chap TextD PlaceD ReadingD CopyD WayD)
theorem place_bd {t : TextD} {p : PlaceD} (ht : textB t = true) (hp : placeB t p = true) : (0 ≤ p.ch ∧ p.ch ≤ 5) ∧ (0 ≤ p.ln ∧ p.ln ≤ 9) ∧ 0 ≤ p.wd ∧ p.wd ≤ 9 := by
 obtain ⟨l, hw, h1, h2⟩ := placeB_true.1 hp
 have hl := words_bd ht hw
 dsimp only at hl
 omega
end Go.AB
