/-
  What the walks through the program rest on: values, states, steps, calls (LiFacts, LnDoubt).
-/
import Derived.Test.YtejhjijbgceklaaGreatDoorGrpQ
import Derived.Test.YtejhjijbgceklaaGreatDoorAbRem
import Derived.Test.YtejhjijbgceklaaGreatDoorGrpX
namespace Go.AB
open Go Go.RowKit
open Go.AB.Enc (cells)
open Go.PB (Chap TextD PlaceD ReadingD CopyD WayD)
section
variable {t : TextD} {i k : Nat} {x y : PW}
theorem readyT_true : readyT t = true ↔ greatB t = false ∧ textB t = true := by simp [readyT]
theorem rightC_true {c : CopyD} : rightC t c = true ↔ greatCp c = false ∧ copyB t c = true := by simp [rightC]
end
end Go.AB
namespace Go.Proofs.YtejhjijbgceklaaGreatDoor
set_option maxRecDepth 10000
open Go.RowKit Go.AB
open Go.AB.Enc (cells)
open Go.PB (Chap TextD PlaceD ReadingD CopyD WayD)
end Go.Proofs.YtejhjijbgceklaaGreatDoor
namespace Go.AB
open Go Go.RowKit
open Go.AB.Enc (cells)
open Go.PB (Chap TextD PlaceD ReadingD CopyD WayD)
end Go.AB
namespace Go.Proofs.YtejhjijbgceklaaGreatDoor
set_option maxRecDepth 10000
open Go.RowKit Go.AB
open Go.AB.Enc (cells)
open Go.PB (Chap TextD PlaceD ReadingD CopyD WayD)
theorem lStands (n : Nat) (t : TextD) (c : CopyD) (ht : textB t = true) (hc : copyB t c = true) {x : PW} (hx : x ∈ allP t) : PureN n kndF Tryz.prog 17 [textC t, val c, val x.1] (.tup [.v (.string (standR c.rs x.1 x.2)), .v (.int .i64 0)]) := by
 have hE : standsEr t c x.1 = 0 := by
  have h0 : copyEr t c = 0 := copyEr_zero.2 ⟨ht, hc⟩
  simp [standsEr, h0, allP_mem.1 (List.mem_map.2 ⟨x, hx, rfl⟩)]
 have := leafStands_pureN n t c x.1
 rwa [hE, show standsV t c x.1 = standR c.rs x.1 x.2 by simp [standsV, hE, allP_wordP hx]] at this
end Go.Proofs.YtejhjijbgceklaaGreatDoor
