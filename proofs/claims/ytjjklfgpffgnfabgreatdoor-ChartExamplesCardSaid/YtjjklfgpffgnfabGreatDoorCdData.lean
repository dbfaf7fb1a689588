/-
 The data of charts: stretches, editions, rows; what is computed of them.
-/
import Derived.Test.YtjjklfgpffgnfabGreatDoorAdData
import Derived.Test.YtjjklfgpffgnfabGreatDoorEngB
namespace Go.AB
open Go Go.RowKit
open Go.AB.Enc (cells)
open Go.PB (Chap TextD PlaceD ReadingD CopyD WayD)
structure StretchD where
 ch : Int
 fr : Int
 tt : Int
 au : Int
 fi : Int
 deriving DecidableEq
structure EditionD where
 id : Int
 ss : List StretchD
 deriving DecidableEq
structure RowD where
 ch : Int
 ln : Int
 au : Int
 nu : Int
 ws : Int
 deriving DecidableEq
instance : Enc StretchD := ⟨fun x => [.v (.int .i64 x.ch), .v (.int .i64 x.fr), .v (.int .i64 x.tt), .v (.int .i64 x.au), .v (.int .i64 x.fi)], 5, fun _ => rfl, fun m x c h => by
 simp only [List.mem_cons, List.not_mem_nil, or_false] at h; rcases h with rfl | rfl | rfl | rfl | rfl <;> exact .v, fun x c h => by
 simp only [List.mem_cons, List.not_mem_nil, or_false] at h; rcases h with rfl | rfl | rfl | rfl | rfl <;> rfl⟩
instance : Enc EditionD := ⟨fun x => [.v (.int .i64 x.id), lst x.ss], 2, fun _ => rfl, fun m x c h => by
 simp only [List.mem_cons, List.not_mem_nil, or_false] at h; rcases h with rfl | rfl; exact .v; exact lst_low m _, fun x c h => by
 simp only [List.mem_cons, List.not_mem_nil, or_false] at h; rcases h with rfl | rfl <;> rfl⟩

/-- numbers of an edition that is read out of memory -/
structure SFit (s : StretchD) : Prop where
 ch : I64 s.ch
 fr : I64 s.fr
 tt : I64 s.tt
 au : I64 s.au
 fi : I64 s.fi
structure EFit (e : EditionD) : Prop where
 id : I64 e.id
 len : e.ss.length ≤ 9223372036854775807
 ss : ∀ s ∈ e.ss, SFit s
/-! ### What the functions compute -/
/-- so many lines has a chapter -/
def nlines (t : TextD) (c : Int) : Nat := match t[c.toNat]? with
 | some x => x.lines.length
 | none => 0
def sB1 (t : TextD) (s : StretchD) : Bool := inB s.ch 0 ((t.length : Int) - 1)
def sB2 (t : TextD) (s : StretchD) : Bool := inB s.fr 0 ((nlines t s.ch : Int) - 1) && inB s.tt (s.fr + 1) (nlines t s.ch)
def sB3 (s : StretchD) : Bool := inB s.au 1 999 && inB s.fi 1 (999 - (s.tt - s.fr) + 1)
def strB (t : TextD) (s : StretchD) : Bool := sB1 t s && (sB2 t s && sB3 s)
def editionB (t : TextD) (e : EditionD) : Bool := inB e.id 0 9999 && (decide (e.ss.length ≤ 12) && e.ss.all (strB t))
/-- the error of a text -/
def textEr (t : TextD) : Int := bif textB t then 0 else 10
/-- .. and an edition -/
def checkEr (t : TextD) (e : EditionD) : Int := bif textB t then (bif editionB t e then 0 else 20) else 10
theorem checkEr_ok {t : TextD} {e : EditionD} (h : checkEr t e = 0) : textB t = true ∧ editionB t e = true := by
 unfold checkEr at h
 cases h1 : textB t <;> cases h2 : editionB t e <;> simp_all
def meetB (a m b n : Int) : Bool := decide (a < b + n) && decide (b < a + m)
def clashB (a b : StretchD) : Bool := (decide (a.ch = b.ch) && meetB a.fr (a.tt - a.fr) b.fr (b.tt - b.fr)) || (decide (a.au = b.au) && meetB a.fi (a.tt - a.fr) b.fi (b.tt - b.fr))
/-- what is so of a valid stretch -/
structure SOk (s : StretchD) : Prop where
 fr : 0 ≤ s.fr
 lt : s.fr < s.tt
 tt : s.tt ≤ 10
 ch : 0 ≤ s.ch ∧ s.ch ≤ 5
 au : 1 ≤ s.au ∧ s.au ≤ 999
 fi : 1 ≤ s.fi ∧ s.fi + (s.tt - s.fr) ≤ 1000
theorem text_ok {t : TextD} (h : textB t = true) : 1 ≤ t.length ∧ t.length ≤ 6 ∧ ∀ c ∈ t, 1 ≤ c.lines.length ∧ c.lines.length ≤ 10 ∧ ∀ l ∈ c.lines, 1 ≤ l.length ∧ l.length ≤ 10 := by
 simp only [textB, Bool.and_eq_true, inB_true, List.all_eq_true, chapB, lineB] at h
 refine ⟨by omega, by omega, fun c hc => ?_⟩
 have := h.1.2 c hc
 refine ⟨by omega, by omega, fun l hl => ?_⟩
 have := this.2 l hl
 omega
theorem nlines_get {t : TextD} {c : Int} {k : Nat} {x : Chap} (hc : c = (k : Int)) (hx : t[k]? = some x) : nlines t c = x.lines.length := by
 subst hc; simp [nlines, hx]
theorem nlines_le {t : TextD} (h : textB t = true) (c : Int) : nlines t c ≤ 10 := by
 unfold nlines
 split
 ·rename_i x hx
  have := (text_ok h).2.2 x (List.mem_of_getElem? hx)
  omega
 ·omega
theorem str_ok {t : TextD} {s : StretchD} (h : textB t = true) (hs : strB t s = true) : SOk s := by
 simp only [strB, sB1, sB2, sB3, Bool.and_eq_true, inB_true] at hs
 have h1 := nlines_le h s.ch
 have h2 := text_ok h
 exact ⟨by omega, by omega, by omega, by omega, by omega, by omega⟩
theorem edition_ok {t : TextD} {e : EditionD} (h : textB t = true) (he : editionB t e = true) : e.ss.length ≤ 12 ∧ ∀ s ∈ e.ss, SOk s := by
 simp only [editionB, Bool.and_eq_true, decide_eq_true_eq, List.all_eq_true] at he
 exact ⟨he.2.1, fun s hs => str_ok h (he.2.2 s hs)⟩
/-- two stretches clash -/
def isClash (ss : List StretchD) (a b : Nat) : Prop := a < b ∧ ∃ x y, ss[a]? = some x ∧ ss[b]? = some y ∧ clashB x y = true
/-- the first two that clash -/
def FirstC (ss : List StretchD) : Option (Nat × Nat) → Prop
 | none => ∀ a b, ¬ isClash ss a b
 | some p => isClash ss p.1 p.2 ∧ ∀ c d, isClash ss c d → p.1 < c ∨ (p.1 = c ∧ p.2 ≤ d)
theorem firstC_uniq {ss : List StretchD} {o o' : Option (Nat × Nat)} (h : FirstC ss o) (h' : FirstC ss o') : o = o' := by
 cases o with
 | none => cases o' with
  | none => rfl
  | some p => exact absurd h'.1 (h _ _)
 | some p => cases o' with
  | none => exact absurd h.1 (h' _ _)
  | some q =>
   have h1 := h.2 _ _ h'.1
   have h2 := h'.2 _ _ h.1
   congr 1
   exact Prod.ext (by omega) (by omega)
open Classical in
noncomputable def firstC (ss : List StretchD) : Option (Nat × Nat) := if h : ∃ o, FirstC ss o then h.choose else none
theorem firstC_eq {ss : List StretchD} {o : Option (Nat × Nat)} (h : FirstC ss o) : firstC ss = o := by
 unfold firstC
 rw [dif_pos ⟨o, h⟩]
 exact firstC_uniq (Exists.choose_spec (p := FirstC ss) ⟨o, h⟩) h
noncomputable def clA (ss : List StretchD) : Int := match firstC ss with | some p => p.1 | none => 0
noncomputable def clB (ss : List StretchD) : Int := match firstC ss with | some p => p.2 | none => 0
/-- .. what clashes, with the error -/
noncomputable def clashEr (t : TextD) (e : EditionD) : Int := bif decide (checkEr t e = 0) then (bif (firstC e.ss).isSome then 0 else 6) else checkEr t e
noncomputable def clashA (t : TextD) (e : EditionD) : Int := bif decide (checkEr t e = 0) then clA e.ss else 0
noncomputable def clashBv (t : TextD) (e : EditionD) : Int := bif decide (checkEr t e = 0) then clB e.ss else 0
/-- the error of a text and a sound edition -/
noncomputable def soundEr (t : TextD) (e : EditionD) : Int := bif decide (checkEr t e = 0) then (bif (firstC e.ss).isSome then 8 else 0) else checkEr t e
end Go.AB
