/-
 The fewest readings from line to line, in plain Lean.
-/
import Derived.Test.YtejhjijbgceklaaGreatDoorAdData
import Derived.Test.YtejhjijbgceklaaGreatDoorEngA
namespace Go.AB
open Go.AB.Enc (cells)
open Go.PB (Chap TextD PlaceD ReadingD CopyD WayD)

/-- the fewest readings from one line to another one -/
def few : List ByteArray → List ByteArray → Nat
 | [], b => b.length
 | x :: a, [] => a.length + 1
 | x :: a, y :: b => if x = y then few a b else 1 + min (few a b) (min (few a (y :: b)) (few (x :: a) b))
termination_by a b => a.length + b.length

theorem few_nil_right (a : List ByteArray) : few a [] = a.length := by
 cases a <;> simp [few]
theorem few_le (a b : List ByteArray) : few a b ≤ a.length + b.length := by
 induction a generalizing b with
 | nil => simp [few]
 | cons x a ih =>
  induction b with
  | nil => simp [few]
  | cons y b ihb =>
   rw [few]
   split
   ·have := ih b; simp; omega
   ·have := ih (y :: b); have := ihb; have := ih b
    simp only [List.length_cons] at *
    omega

/-- the fewest readings for what is left of both lines -/
def fewAt (a b : List ByteArray) (i k : Nat) : Nat := few (a.drop i) (b.drop k)

theorem fewAt_le (a b : List ByteArray) (i k : Nat) : fewAt a b i k ≤ (a.length - i) + (b.length - k) := by
 have := few_le (a.drop i) (b.drop k)
 simpa [fewAt] using this
theorem fewAt_end {a b : List ByteArray} {i : Nat} (h : a.length ≤ i) (k : Nat) : fewAt a b i k = b.length - k := by
 unfold fewAt
 rw [List.drop_eq_nil_of_le h]
 simp [few]
theorem fewAt_end2 {a b : List ByteArray} {k : Nat} (h : b.length ≤ k) (i : Nat) : fewAt a b i k = a.length - i := by
 unfold fewAt
 rw [List.drop_eq_nil_of_le h, few_nil_right]
 simp
theorem fewAt_same {a b : List ByteArray} {i k : Nat} {x : ByteArray} (hx : a[i]? = some x) (hy : b[k]? = some x) : fewAt a b i k = fewAt a b (i + 1) (k + 1) := by
 obtain ⟨hi, rfl⟩ := List.getElem?_eq_some_iff.1 hx
 obtain ⟨hk, e⟩ := List.getElem?_eq_some_iff.1 hy
 unfold fewAt
 rw [List.drop_eq_getElem_cons hi, List.drop_eq_getElem_cons hk, few, if_pos e.symm]
theorem fewAt_other {a b : List ByteArray} {i k : Nat} {x y : ByteArray} (hx : a[i]? = some x) (hy : b[k]? = some y) (hne : x ≠ y) :
  fewAt a b i k = 1 + min (fewAt a b (i + 1) (k + 1)) (min (fewAt a b (i + 1) k) (fewAt a b i (k + 1))) := by
 obtain ⟨hi, rfl⟩ := List.getElem?_eq_some_iff.1 hx
 obtain ⟨hk, rfl⟩ := List.getElem?_eq_some_iff.1 hy
 unfold fewAt
 conv => lhs; rw [List.drop_eq_getElem_cons hi, List.drop_eq_getElem_cons hk, few, if_neg hne]
 rw [← List.drop_eq_getElem_cons hi, ← List.drop_eq_getElem_cons hk]

/-! ### The table -/
/-! ### ways -/
def wayAt : Nat → WayD
 | 0 => ⟨3, 1, 1⟩
 | 1 => ⟨1, 1, 0⟩
 | _ => ⟨2, 0, 1⟩
def fits (a b : List ByteArray) (i k : Nat) (w : WayD) : Bool := decide (i + w.one ≤ a.length) && decide (k + w.two ≤ b.length)
def lessW (a b : List ByteArray) (i k : Nat) (w : WayD) (n : Nat) : Bool := decide (fewAt a b (i + w.one) (k + w.two) < n)
/-- the best of the first j ways -/
def stW (a b : List ByteArray) (i k : Nat) : Nat → WayD × Nat
 | 0 => (⟨0, 0, 0⟩, a.length + b.length + 1)
 | j + 1 => bif fits a b i k (wayAt j) && lessW a b i k (wayAt j) (stW a b i k j).2 then (wayAt j, fewAt a b (i + (wayAt j).one) (k + (wayAt j).two)) else stW a b i k j
def bestW (a b : List ByteArray) (i k : Nat) : WayD × Nat := stW a b i k 3

theorem stW_yes {a b : List ByteArray} {i k j : Nat} (hf : fits a b i k (wayAt j) = true) (hl : lessW a b i k (wayAt j) (stW a b i k j).2 = true) : stW a b i k (j + 1) = (wayAt j, fewAt a b (i + (wayAt j).one) (k + (wayAt j).two)) := by
 conv => lhs; unfold stW
 simp [hf, hl]
theorem stW_unfit {a b : List ByteArray} {i k j : Nat} (hf : fits a b i k (wayAt j) = false) : stW a b i k (j + 1) = stW a b i k j := by
 conv => lhs; unfold stW
 simp [hf]
theorem stW_more {a b : List ByteArray} {i k j : Nat} (hl : lessW a b i k (wayAt j) (stW a b i k j).2 = false) : stW a b i k (j + 1) = stW a b i k j := by
 conv => lhs; unfold stW
 simp [hl]

/-- two words are the same one -/
def sameW (a b : List ByteArray) (i k : Nat) : Bool := decide (i < a.length) && decide (k < b.length) && decide (a[i]? = b[k]?)
def moreW (a b : List ByteArray) (i k : Nat) : Bool := decide (i < a.length) || decide (k < b.length)

theorem sameW_some {a b : List ByteArray} {i k : Nat} {x y : ByteArray} (hx : a[i]? = some x) (hy : b[k]? = some y) : sameW a b i k = decide (x = y) := by
 have h1 := lt_of_some hx
 have h2 := lt_of_some hy
 rw [sameW, hx, hy]
 simp [h1, h2]

theorem bestW_few {a b : List ByteArray} {i k : Nat} (hs : sameW a b i k = false) (hm : moreW a b i k = true) (hi : i ≤ a.length) (hk : k ≤ b.length) : fewAt a b i k = (bestW a b i k).2 + 1 := by
 have l11 := fewAt_le a b (i + 1) (k + 1)
 have l10 := fewAt_le a b (i + 1) k
 have l01 := fewAt_le a b i (k + 1)
 have r : (bestW a b i k) = stW a b i k 3 := rfl
 by_cases h1 : i < a.length
 ·by_cases h2 : k < b.length
  ·obtain ⟨x, hx⟩ := some_of_lt h1
   obtain ⟨y, hy⟩ := some_of_lt h2
   rw [sameW_some hx hy] at hs
   rw [fewAt_other hx hy (by simpa using hs), r]
   simp only [stW, fits, lessW, wayAt, Bool.cond_eq_ite, Bool.and_eq_true, decide_eq_true_eq, Nat.add_zero]
   repeat' split
   all_goals simp only [Nat.add_zero] at *
   all_goals omega
  ·have e10 := fewAt_end2 (a := a) (b := b) (k := k) (by omega) (i + 1)
   rw [fewAt_end2 (by omega), r]
   simp only [stW, fits, lessW, wayAt, Bool.cond_eq_ite, Bool.and_eq_true, decide_eq_true_eq, Nat.add_zero]
   repeat' split
   all_goals simp only [Nat.add_zero] at *
   all_goals omega
 ·have h2 : k < b.length := by simp [moreW, h1] at hm; exact hm
  have e01 := fewAt_end (a := a) (b := b) (i := i) (by omega) (k + 1)
  rw [fewAt_end (by omega), r]
  simp only [stW, fits, lessW, wayAt, Bool.cond_eq_ite, Bool.and_eq_true, decide_eq_true_eq, Nat.add_zero]
  repeat' split
  all_goals simp only [Nat.add_zero] at *
  all_goals omega

theorem stW_way (a b : List ByteArray) (i k : Nat) : ∀ j, stW a b i k j = (⟨0, 0, 0⟩, a.length + b.length + 1) ∨ ∃ m, m < 3 ∧ (stW a b i k j).1 = wayAt m ∧ fits a b i k (wayAt m) = true
 | 0 => .inl rfl
 | j + 1 => by
  unfold stW
  cases h : fits a b i k (wayAt j) && lessW a b i k (wayAt j) (stW a b i k j).2
  ·simpa using stW_way a b i k j
  ·simp only [Bool.and_eq_true] at h
   refine .inr ?_
   match j with
   | 0 => exact ⟨0, by omega, rfl, h.1⟩
   | 1 => exact ⟨1, by omega, rfl, h.1⟩
   | j + 2 => exact ⟨2, by omega, rfl, h.1⟩

/-- the best way fits, and uses up something -/
theorem bestW_fits {a b : List ByteArray} {i k : Nat} (hs : sameW a b i k = false) (hm : moreW a b i k = true) (hi : i ≤ a.length) (hk : k ≤ b.length) :
  ∃ m, m < 3 ∧ (bestW a b i k).1 = wayAt m ∧ i + (bestW a b i k).1.one ≤ a.length ∧ k + (bestW a b i k).1.two ≤ b.length ∧ 1 ≤ (bestW a b i k).1.one + (bestW a b i k).1.two := by
 rcases stW_way a b i k 3 with h | ⟨m, hm3, h, hf⟩
 ·have := bestW_few hs hm hi hk
  have l := fewAt_le a b i k
  have e : (bestW a b i k).2 = a.length + b.length + 1 := by unfold bestW; rw [h]
  omega
 ·have e : (bestW a b i k).1 = wayAt m := h
  refine ⟨m, hm3, e, ?_⟩
  rw [e]
  simp only [fits, Bool.and_eq_true, decide_eq_true_eq] at hf
  refine ⟨hf.1, hf.2, ?_⟩
  match m, hm3 with
  | 0, _ => simp [wayAt]
  | 1, _ => simp [wayAt]
  | 2, _ => simp [wayAt]

/-! ### readings -/
def wordAt (b : List ByteArray) (k : Nat) (w : WayD) : ByteArray := if w.two = 1 then (b[k]?).getD ByteArray.empty else ByteArray.empty
/-- the fewest readings of what is left, n words at most -/
def editsN (a b : List ByteArray) (ch ln : Int) : Nat → Nat → Nat → List ReadingD
 | 0, _, _ => []
 | n + 1, i, k => bif moreW a b i k then (bif sameW a b i k then editsN a b ch ln n (i + 1) (k + 1)
   else ⟨⟨ch, ln, i⟩, (bestW a b i k).1.kind, wordAt b k (bestW a b i k).1⟩ :: editsN a b ch ln n (i + (bestW a b i k).1.one) (k + (bestW a b i k).1.two)) else []
def edits (a b : List ByteArray) (ch ln : Int) (i k : Nat) : List ReadingD := editsN a b ch ln ((a.length - i) + (b.length - k)) i k

theorem editsN_more (a b : List ByteArray) (ch ln : Int) : ∀ (n m i k : Nat), i ≤ a.length → k ≤ b.length → (a.length - i) + (b.length - k) ≤ n → (a.length - i) + (b.length - k) ≤ m → editsN a b ch ln n i k = editsN a b ch ln m i k
 | 0, m, i, k, hi, hk, h, h' => by
  have : moreW a b i k = false := by simp [moreW]; omega
  cases m <;> simp [editsN, this]
 | n + 1, 0, i, k, hi, hk, h, h' => by
  have : moreW a b i k = false := by simp [moreW]; omega
  simp [editsN, this]
 | n + 1, m + 1, i, k, hi, hk, h, h' => by
  cases hm : moreW a b i k
  ·simp [editsN, hm]
  ·cases hs : sameW a b i k
   ·obtain ⟨j, _, e, h1, h2, h3⟩ := bestW_fits hs hm hi hk
    simp only [editsN, hm, hs, cond_true, cond_false]
    rw [editsN_more a b ch ln n m _ _ h1 h2 (by omega) (by omega)]
   ·have hb : i < a.length ∧ k < b.length := by simp [sameW] at hs; exact hs.1
    simp only [editsN, hm, hs, cond_true]
    exact editsN_more a b ch ln n m _ _ (by omega) (by omega) (by omega) (by omega)

theorem edits_done {a b : List ByteArray} {i k : Nat} (hm : moreW a b i k = false) (ch ln : Int) : edits a b ch ln i k = [] := by
 unfold edits
 cases (a.length - i) + (b.length - k) <;> simp [editsN, hm]
theorem edits_same {a b : List ByteArray} {i k : Nat} (hs : sameW a b i k = true) (ch ln : Int) : edits a b ch ln i k = edits a b ch ln (i + 1) (k + 1) := by
 have hb : i < a.length ∧ k < b.length := by simp [sameW] at hs; exact hs.1
 have hm : moreW a b i k = true := by simp [moreW, hb.1]
 unfold edits
 rw [editsN_more a b ch ln _ ((a.length - i) + (b.length - k) - 1 + 1) i k (by omega) (by omega) (Nat.le_refl _) (by omega)]
 simp only [editsN, hm, hs, cond_true]
 exact editsN_more a b ch ln _ _ _ _ (by omega) (by omega) (by omega) (by omega)
theorem edits_way {a b : List ByteArray} {i k : Nat} (hs : sameW a b i k = false) (hm : moreW a b i k = true) (hi : i ≤ a.length) (hk : k ≤ b.length) (ch ln : Int) :
  edits a b ch ln i k = ⟨⟨ch, ln, i⟩, (bestW a b i k).1.kind, wordAt b k (bestW a b i k).1⟩ :: edits a b ch ln (i + (bestW a b i k).1.one) (k + (bestW a b i k).1.two) := by
 have hmm : i < a.length ∨ k < b.length := by simpa [moreW] using hm
 obtain ⟨j, _, e, h1, h2, h3⟩ := bestW_fits hs hm hi hk
 conv => lhs; unfold edits; rw [editsN_more a b ch ln _ ((a.length - i) + (b.length - k) - 1 + 1) i k (by omega) (by omega) (Nat.le_refl _) (by omega)]
 simp only [editsN, hm, hs, cond_true, cond_false]
 unfold edits
 rw [editsN_more a b ch ln _ _ _ _ h1 h2 (by omega) (Nat.le_refl _)]
theorem edits_len (a b : List ByteArray) (ch ln : Int) : ∀ (n i k : Nat), i ≤ a.length → k ≤ b.length → (a.length - i) + (b.length - k) ≤ n → (editsN a b ch ln n i k).length ≤ n
 | 0, i, k, _, _, _ => by simp [editsN]
 | n + 1, i, k, hi, hk, h => by
  cases hm : moreW a b i k
  ·simp [editsN, hm]
  ·cases hs : sameW a b i k
   ·obtain ⟨j, _, e, h1, h2, h3⟩ := bestW_fits hs hm hi hk
    simp only [editsN, hm, hs, cond_true, cond_false, List.length_cons]
    have := edits_len a b ch ln n _ _ h1 h2 (by omega)
    omega
   ·have hb : i < a.length ∧ k < b.length := by simp [sameW] at hs; exact hs.1
    simp only [editsN, hm, hs, cond_true]
    have := edits_len a b ch ln n (i + 1) (k + 1) (by omega) (by omega) (by omega)
    omega

/-! ### all readings of two texts -/
def linesOf (t : TextD) (k : Nat) : List (List ByteArray) := match t[k]? with | some c => c.lines | none => []
def lineAt (t : TextD) (k n : Nat) : List ByteArray := ((linesOf t k)[n]?).getD []
def chapTo (t u : TextD) (k m : Nat) : List ReadingD := (List.range m).flatMap fun n => edits (lineAt t k n) (lineAt u k n) k n 0 0
def allTo (t u : TextD) (m : Nat) : List ReadingD := (List.range m).flatMap fun k => chapTo t u k (linesOf t k).length
def foundE (t u : TextD) : List ReadingD := allTo t u t.length
theorem chapTo_succ (t u : TextD) (k m : Nat) : chapTo t u k (m + 1) = chapTo t u k m ++ edits (lineAt t k m) (lineAt u k m) k m 0 0 := by
 simp [chapTo, List.range_succ, List.flatMap_append]
theorem allTo_succ (t u : TextD) (m : Nat) : allTo t u (m + 1) = allTo t u m ++ chapTo t u m (linesOf t m).length := by
 simp [allTo, List.range_succ, List.flatMap_append]
theorem linesOf_some {t : TextD} {k : Nat} {c : Chap} (h : t[k]? = some c) : linesOf t k = c.lines := by simp [linesOf, h]
theorem lineAt_some {t : TextD} {k n : Nat} {c : Chap} {l : List ByteArray} (h : t[k]? = some c) (hl : c.lines[n]? = some l) : lineAt t k n = l := by simp [lineAt, linesOf_some h, hl]
theorem edits_len0 (a b : List ByteArray) (ch ln : Int) : (edits a b ch ln 0 0).length ≤ a.length + b.length := by
 have := edits_len a b ch ln ((a.length - 0) + (b.length - 0)) 0 0 (Nat.zero_le _) (Nat.zero_le _) (Nat.le_refl _)
 simpa [edits] using this
theorem text_len {t : TextD} (h : textB t = true) : t.length ≤ 6 := by
 simp only [textB, Bool.and_eq_true, inB_true] at h; omega
theorem text_lines {t : TextD} (h : textB t = true) {k : Nat} {c : Chap} (hc : t[k]? = some c) : c.lines.length ≤ 10 ∧ c.lines.all lineB = true := by
 simp only [textB, Bool.and_eq_true, List.all_eq_true] at h
 have := h.1.2 c (List.mem_of_getElem? hc)
 simp only [chapB, Bool.and_eq_true, inB_true] at this
 exact ⟨by omega, this.2⟩
theorem text_words {t : TextD} (h : textB t = true) {k n : Nat} {c : Chap} {l : List ByteArray} (hc : t[k]? = some c) (hl : c.lines[n]? = some l) : l.length ≤ 10 := by
 have h1 := (text_lines h hc).2
 rw [List.all_eq_true] at h1
 have := h1 l (List.mem_of_getElem? hl)
 simp only [lineB, Bool.and_eq_true, inB_true] at this
 omega
theorem alike_len {t u : TextD} (h : alikeB t u = true) : t.length = u.length := by
 simp only [alikeB, Bool.and_eq_true] at h
 exact of_decide_eq_true h.1
theorem alike_lines {t u : TextD} (h : alikeB t u = true) {k : Nat} {x y : Chap} (hx : t[k]? = some x) (hy : u[k]? = some y) : x.lines.length = y.lines.length := by
 simp only [alikeB, Bool.and_eq_true, List.all_eq_true] at h
 have hz : (t.zip u)[k]? = some (x, y) := by simp [List.getElem?_zip_eq_some, hx, hy]
 have := h.2 (x, y) (List.mem_of_getElem? hz)
 simp only [chapAlike, Bool.and_eq_true] at this
 exact of_decide_eq_true this.2

/-! ### Find, Apart -/
def findE (t u : TextD) (id : Int) : Int := if twoE t u = 0 then (if inB id 0 9999 = true then (if 20 < (foundE t u).length then 4 else 0) else 2) else twoE t u
def findC (t u : TextD) (id : Int) : CopyD := if findE t u id = 0 then ⟨id, foundE t u⟩ else ⟨0, []⟩
def apartN (t u : TextD) : Int := if twoE t u = 0 then (foundE t u).length else 0
theorem twoE_zero {t u : TextD} : twoE t u = 0 ↔ textB t = true ∧ textB u = true ∧ alikeB t u = true := by
 unfold twoE
 cases textB t <;> cases textB u <;> cases alikeB t u <;> simp
theorem foundE_len {t u : TextD} (h1 : textB t = true) (h2 : textB u = true) (h3 : alikeB t u = true) : (foundE t u).length ≤ 1200 := by
 have hch : ∀ k m, (chapTo t u k m).length ≤ 20 * m := by
  intro k m
  induction m with
  | zero => simp [chapTo]
  | succ m ih =>
   rw [chapTo_succ, List.length_append]
   have hl : ∀ (t : TextD), textB t = true → (lineAt t k m).length ≤ 10 := by
    intro t ht
    unfold lineAt linesOf
    split
    ·rename_i c hc
     cases hl : c.lines[m]? with
     | none => simp
     | some l => exact text_words ht hc hl
    ·simp
   have := edits_len0 (lineAt t k m) (lineAt u k m) k m
   have := hl t h1
   have := hl u h2
   omega
 have hall : ∀ m, (allTo t u m).length ≤ 200 * m := by
  intro m
  induction m with
  | zero => simp [allTo]
  | succ m ih =>
   rw [allTo_succ, List.length_append]
   have := hch m (linesOf t m).length
   have : (linesOf t m).length ≤ 10 := by
    unfold linesOf
    split
    ·rename_i c hc; exact (text_lines h1 hc).1
    ·simp
   omega
 have := hall t.length
 have := text_len h1
 unfold foundE
 omega

/-! ### The reference's way -/
structure FoundI (a b : List ByteArray) (ch ln : Int) (i k : Nat) (L : List ReadingD) : Prop where
 hi : i ≤ a.length
 hk : k ≤ b.length
 all : L ++ edits a b ch ln i k = edits a b ch ln 0 0
 len : L.length ≤ i + k
theorem foundI_start (a b : List ByteArray) (ch ln : Int) : FoundI a b ch ln 0 0 [] := ⟨Nat.zero_le _, Nat.zero_le _, rfl, Nat.le_refl _⟩
theorem foundI_end {a b : List ByteArray} {ch ln : Int} {i k : Nat} {L : List ReadingD} (h : FoundI a b ch ln i k L) (hm : moreW a b i k = false) : L = edits a b ch ln 0 0 := by
 have := h.all
 rwa [edits_done hm, List.append_nil] at this
theorem foundI_same {a b : List ByteArray} {ch ln : Int} {i k : Nat} {L : List ReadingD} (h : FoundI a b ch ln i k L) (hs : sameW a b i k = true) : FoundI a b ch ln (i + 1) (k + 1) L := by
 have hb : i < a.length ∧ k < b.length := by simp [sameW] at hs; exact hs.1
 have := h.len
 exact ⟨by omega, by omega, by rw [← edits_same hs]; exact h.all, by omega⟩
theorem foundI_way {a b : List ByteArray} {ch ln : Int} {i k : Nat} {L : List ReadingD} (h : FoundI a b ch ln i k L) (hs : sameW a b i k = false) (hm : moreW a b i k = true) :
  FoundI a b ch ln (i + (bestW a b i k).1.one) (k + (bestW a b i k).1.two) (L ++ [⟨⟨ch, ln, i⟩, (bestW a b i k).1.kind, wordAt b k (bestW a b i k).1⟩]) := by
 obtain ⟨j, _, e, h1, h2, h3⟩ := bestW_fits hs hm h.hi h.hk
 have := h.len
 refine ⟨h1, h2, ?_, by simp; omega⟩
 rw [List.append_assoc, List.singleton_append, ← edits_way hs hm h.hi h.hk]
 exact h.all
end Go.AB
