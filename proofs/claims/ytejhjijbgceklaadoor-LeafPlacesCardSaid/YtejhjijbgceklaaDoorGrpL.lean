/-
  What the walks through the program rest on: values, states, steps, calls (LaRef, LdRef, LeRef, LfRef).
-/
import Derived.Test.YtejhjijbgceklaaDoorGrpK
import Derived.Test.YtejhjijbgceklaaDoorCrOne
import Derived.Test.YtejhjijbgceklaaDoorEbRef
import Derived.Test.YtejhjijbgceklaaDoorKxBefore
namespace Go.AB
open Go Go.RowKit
open Go.AB.Enc (cells)
open Go.PB (Chap TextD PlaceD ReadingD CopyD WayD)
theorem placeB_at {t : TextD} {p : PlaceD} (hp : placeB t p = true) : ∃ (k n w : Nat) (c : Chap) (l : List ByteArray), p = ⟨k, n, w⟩ ∧ t[k]? = some c ∧ c.lines[n]? = some l ∧ l[w]? = some (wordP t p) := by
 obtain ⟨l, hw, h1, h2⟩ := placeB_true.1 hp
 obtain ⟨k, n, c, hkn, hk, hn⟩ := wordsOf_some hw
 refine ⟨k, n, p.wd.toNat, c, l, ?_, hk, hn, ?_⟩
 ·have e1 : p.ch = (k : Int) := congrArg Prod.fst hkn
  have e2 : p.ln = (n : Int) := congrArg Prod.snd hkn
  obtain ⟨a, b, d⟩ := p
  dsimp only at e1 e2 h1 ⊢
  subst e1; subst e2
  rw [Int.toNat_of_nonneg h1]
 unfold wordP
 rw [hw, Option.getD_some, List.getElem?_eq_getElem (by omega)]
 rfl
theorem allP_at {t : TextD} {k : Nat} {x : PW} (hx : (allP t)[k]? = some x) : placeB t x.1 = true ∧ wordP t x.1 = x.2 := by
 have hm := List.mem_of_getElem? hx
 exact ⟨allP_mem.1 (List.mem_map.2 ⟨x, hm, rfl⟩), allP_wordP hm⟩
/-! ### A word in its place -/
end Go.AB
namespace Go.Proofs.YtejhjijbgceklaaDoor
set_option maxRecDepth 10000
open Go.RowKit Go.AB
open Go.AB.Enc (cells)
open Go.PB (Chap TextD PlaceD ReadingD CopyD WayD)
end Go.Proofs.YtejhjijbgceklaaDoor
namespace Go.AB
open Go Go.RowKit
open Go.AB.Enc (cells)
open Go.PB (Chap TextD PlaceD ReadingD CopyD WayD)
end Go.AB
namespace Go.Proofs.YtejhjijbgceklaaDoor
set_option maxRecDepth 10000
open Go.RowKit Go.AB
open Go.AB.Enc (cells)
open Go.PB (Chap TextD PlaceD ReadingD CopyD WayD)
end Go.Proofs.YtejhjijbgceklaaDoor
namespace Go.AB
open Go Go.RowKit
open Go.AB.Enc (cells)
open Go.PB (Chap TextD PlaceD ReadingD CopyD WayD)
end Go.AB
namespace Go.Proofs.YtejhjijbgceklaaDoor
set_option maxRecDepth 10000
open Go.RowKit Go.AB
open Go.AB.Enc (cells)
open Go.PB (Chap TextD PlaceD ReadingD CopyD WayD)
end Go.Proofs.YtejhjijbgceklaaDoor
namespace Go.Proofs.YtejhjijbgceklaaDoor
set_option maxRecDepth 10000
open Go.RowKit Go.AB
open Go.AB.Enc (cells)
open Go.PB (Chap TextD PlaceD ReadingD CopyD WayD)
end Go.Proofs.YtejhjijbgceklaaDoor
