/-
  What the walks through the program rest on: values, states, steps, calls (FaNear, KxBefore).
-/
import Derived.Test.YtejhjijbgceklaaGreatDoorEaPlain
import Derived.Test.YtejhjijbgceklaaGreatDoorEgComp
namespace Go.AB
open Go Go.RowKit
open Go.AB.Enc (cells)
open Go.PB (Chap TextD PlaceD ReadingD CopyD WayD)
/-- so many words of a line -/
def lineN (p : L2) (k : Nat) : List PlaceD := (List.range k).map fun (i : Nat) => ⟨p.1, p.2, (i : Int)⟩
theorem lineN_len (p : L2) (k : Nat) : (lineN p k).length = k := by simp [lineN]
def lineW (t : TextD) (f : L2 → Option L2) (p : L2) : List PlaceD := bif (f p).isSome then lineN p ((wordsOf t p).getD []).length else []
def wordsP (t : TextD) (f : L2 → Option L2) (l : List L2) : List PlaceD := (l.map (lineW t f)).flatten
def wordsF (t : TextD) (f : L2 → Option L2) : List PlaceD := wordsP t f (linesT t)
theorem lineW_len {t : TextD} (ht : textB t = true) (f : L2 → Option L2) (p : L2) : (lineW t f p).length ≤ 10 := by
 unfold lineW
 cases (f p).isSome
 ·exact Nat.zero_le _
 ·rw [cond_true, lineN_len]
  cases h : wordsOf t p with
  | none => exact Nat.zero_le _
  | some l => have := words_bd ht h; simp only [Option.getD_some]; omega
theorem wordsP_len {t : TextD} (ht : textB t = true) (f : L2 → Option L2) (l : List L2) : (wordsP t f l).length ≤ 10 * l.length := by
 induction l with
 | nil => exact Nat.zero_le _
 | cons p l ih =>
  have h1 := lineW_len ht f p
  have : (wordsP t f (p :: l)).length = (lineW t f p).length + (wordsP t f l).length := by simp [wordsP]
  rw [this, List.length_cons]
  omega
theorem mem_words {t : TextD} {f : L2 → Option L2} {q : PlaceD} : q ∈ wordsF t f ↔ placeB t q = true ∧ (f (q.ch, q.ln)).isSome = true := by
 unfold wordsF wordsP
 rw [List.mem_flatten]
 constructor
 ·rintro ⟨l, hl, hq⟩
  obtain ⟨p, hp, rfl⟩ := List.mem_map.1 hl
  obtain ⟨ws, hw⟩ := mem_lines.1 hp
  unfold lineW at hq
  cases hf : (f p).isSome with
  | false => rw [hf] at hq; simp at hq
  | true =>
   rw [hf, cond_true, hw, Option.getD_some] at hq
   obtain ⟨i, hi, rfl⟩ := List.mem_map.1 hq
   rw [List.mem_range] at hi
   exact ⟨placeB_true.2 ⟨ws, hw, by dsimp only; omega, by dsimp only; omega⟩, hf⟩
 ·rintro ⟨h1, h2⟩
  obtain ⟨ws, hw, h3, h4⟩ := placeB_true.1 h1
  refine ⟨_, List.mem_map.2 ⟨(q.ch, q.ln), mem_lines.2 ⟨ws, hw⟩, rfl⟩, ?_⟩
  unfold lineW
  rw [h2, cond_true, hw, Option.getD_some]
  refine List.mem_map.2 ⟨q.wd.toNat, List.mem_range.2 (by omega), ?_⟩
  have : ((q.wd.toNat : Nat) : Int) = q.wd := by omega
  rw [this]
/-- the numbers of a place -/
def keyP (q : PlaceD) : List Int := [q.ch, q.ln, q.wd]
theorem ltW_irr : ∀ a : List Int, ¬ ltW a a
 | [] => by simp [ltW]
 | x :: a => by simp only [ltW]; rintro (h | ⟨_, h⟩); omega; exact ltW_irr a h
/-! ### What is next to something -/
end Go.AB
namespace Go.AB
open Go Go.RowKit
open Go.AB.Enc (cells)
open Go.PB (Chap TextD PlaceD ReadingD CopyD WayD)
end Go.AB
namespace Go.Proofs.YtejhjijbgceklaaGreatDoor
set_option maxRecDepth 10000
open Go.RowKit Go.AB
open Go.AB.Enc (cells)
open Go.PB (Chap TextD PlaceD ReadingD CopyD WayD)
end Go.Proofs.YtejhjijbgceklaaGreatDoor
