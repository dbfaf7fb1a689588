/-
 All places of a text: no one twice; how large their numbers are.
-/
import Derived.Test.YtejhjijbgceklaaGrpF
namespace Go.AB
open Go Go.RowKit
open Go.PB (Chap TextD PlaceD ReadingD CopyD WayD)
theorem words_nodup (t : TextD) (f : L2 → Option L2) : (wordsF t f).Nodup :=
 (words_sorted t f).imp fun {a b} h e => by subst e; exact ltW_irr _ h
theorem place_bd {t : TextD} {p : PlaceD} (ht : textB t = true) (hp : placeB t p = true) : (0 ≤ p.ch ∧ p.ch ≤ 5) ∧ (0 ≤ p.ln ∧ p.ln ≤ 9) ∧ 0 ≤ p.wd ∧ p.wd ≤ 9 := by
 obtain ⟨l, hw, h1, h2⟩ := placeB_true.1 hp
 have hl := words_bd ht hw
 dsimp only at hl
 omega
end Go.AB
