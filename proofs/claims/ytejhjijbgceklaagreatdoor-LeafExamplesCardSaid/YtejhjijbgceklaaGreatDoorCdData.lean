/-
 The data of charts: stretches, editions, rows; what is computed of them.
-/
import Derived.Test.YtejhjijbgceklaaGreatDoorAdData
import Derived.Test.YtejhjijbgceklaaGreatDoorEngB
namespace Go.AB
open Go Go.RowKit
open Go.AB.Enc (cells)
open Go.PB (Chap TextD PlaceD ReadingD CopyD WayD)
structure StretchD where
 ch : Int
 fr : Int
 tt : Int
 au : Int
 fi : Int
 deriving DecidableEq
structure EditionD where
 id : Int
 ss : List StretchD
 deriving DecidableEq
structure RowD where
 ch : Int
 ln : Int
 au : Int
 nu : Int
 ws : Int
 deriving DecidableEq
/-- numbers of an edition that is read out of memory -/
structure SFit (s : StretchD) : Prop where
 ch : I64 s.ch
 fr : I64 s.fr
 tt : I64 s.tt
 au : I64 s.au
 fi : I64 s.fi
structure EFit (e : EditionD) : Prop where
 id : I64 e.id
 len : e.ss.length ≤ 9223372036854775807
 ss : ∀ s ∈ e.ss, SFit s
/-! ### What the functions compute -/
/-- so many lines has a chapter -/
def nlines (t : TextD) (c : Int) : Nat := match t[c.toNat]? with
 | some x => x.lines.length
 | none => 0
/-- the error of a text -/
def textEr (t : TextD) : Int := bif textB t then 0 else 10
/-- what is so of a valid stretch -/
structure SOk (s : StretchD) : Prop where
 fr : 0 ≤ s.fr
 lt : s.fr < s.tt
 tt : s.tt ≤ 10
 ch : 0 ≤ s.ch ∧ s.ch ≤ 5
 au : 1 ≤ s.au ∧ s.au ≤ 999
 fi : 1 ≤ s.fi ∧ s.fi + (s.tt - s.fr) ≤ 1000
theorem text_ok {t : TextD} (h : textB t = true) : 1 ≤ t.length ∧ t.length ≤ 6 ∧ ∀ c ∈ t, 1 ≤ c.lines.length ∧ c.lines.length ≤ 10 ∧ ∀ l ∈ c.lines, 1 ≤ l.length ∧ l.length ≤ 10 := by
 simp only [textB, Bool.and_eq_true, inB_true, List.all_eq_true, chapB, lineB] at h
 refine ⟨by omega, by omega, fun c hc => ?_⟩
 have := h.1.2 c hc
 refine ⟨by omega, by omega, fun l hl => ?_⟩
 have := this.2 l hl
 omega
theorem nlines_get {t : TextD} {c : Int} {k : Nat} {x : Chap} (hc : c = (k : Int)) (hx : t[k]? = some x) : nlines t c = x.lines.length := by
 subst hc; simp [nlines, hx]
end Go.AB
