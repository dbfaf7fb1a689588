/-
 Charts in plain words: as which line a line of the base is numbered, and back; the first stretches that clash; the lines of a text; stretches that go on.
-/
import Derived.Test.YtejhjijbgceklaaGreatDoorCdData
namespace Go.AB
open Go Go.RowKit
open Go.AB.Enc (cells)
open Go.PB (Chap TextD PlaceD ReadingD CopyD WayD)
abbrev L2 := Int × Int
/-- a stretch has a line of the base; of the edition -/
def hasB (s : StretchD) (p : L2) : Bool := decide (s.ch = p.1) && (decide (s.fr ≤ p.2) && decide (p.2 < s.tt))
def toE (s : StretchD) (p : L2) : L2 := (s.au, s.fi + (p.2 - s.fr))
/-- as which line a line of the base is numbered: by the first stretch that has it; and back -/
def asOf (ss : List StretchD) (p : L2) : Option L2 := (ss.find? fun s => hasB s p).map fun s => toE s p
/-! ### Stretches that clash -/
/-! ### The lines of a text -/
def linesT (t : TextD) : List L2 := (t.mapIdx fun k c => c.lines.mapIdx fun n _ => ((k : Int), (n : Int))).flatten
/-- a line of the base, with the numbers that it has by some stretches -/
def rowOf (ss : List StretchD) (p : L2) (w : Int) : RowD := ⟨p.1, p.2, ((asOf ss p).getD (0, 0)).1, ((asOf ss p).getD (0, 0)).2, w⟩
def rowsT (t : TextD) (ss : List StretchD) : List RowD := (t.mapIdx fun k c => c.lines.mapIdx fun n l => rowOf ss (k, n) l.length).flatten
theorem map_mapIdx' {α β γ : Type} (l : List α) (f : Nat → α → β) (g : β → γ) : (l.mapIdx f).map g = l.mapIdx fun i a => g (f i a) := by
 apply List.ext_getElem?
 intro i
 rw [List.getElem?_map, List.getElem?_mapIdx, List.getElem?_mapIdx, Option.map_map]
 rfl
theorem rows_lines (t : TextD) (ss : List StretchD) : (rowsT t ss).map (fun r => ((r.ch, r.ln) : L2)) = linesT t := by
 unfold rowsT linesT
 rw [List.map_flatten, map_mapIdx']
 congr 2
 funext k c
 rw [map_mapIdx']
 rfl
/-- the rows of a chapter's lines -/
def rowL (ss : List StretchD) (k : Nat) (ls : List (List ByteArray)) : List RowD := ls.mapIdx fun n l => rowOf ss (k, n) l.length
theorem rowsT_succ (ss : List StretchD) {t : TextD} {k : Nat} {c : Chap} (h : t[k]? = some c) : rowsT (t.take (k + 1)) ss = rowsT (t.take k) ss ++ rowL ss k c.lines := by
 unfold rowsT
 rw [mapIdx_take_succ h, List.flatten_append]; simp [rowL]
theorem rowL_len (ss : List StretchD) (k : Nat) (ls : List (List ByteArray)) : (rowL ss k ls).length = ls.length := by simp [rowL]
theorem rowsT_len {t : TextD} (ht : textB t = true) (ss : List StretchD) (k : Nat) : (rowsT (t.take k) ss).length ≤ 10 * k := by
 induction k with
 | zero => simp [rowsT]
 | succ k ih =>
  cases hk : t[k]? with
  | none =>
   have h1 : t.take (k + 1) = t.take k := by rw [List.take_add_one, hk]; simp
   rw [h1]; omega
  | some c =>
   rw [rowsT_succ ss hk, List.length_append, rowL_len]
   have := ((text_ok ht).2.2 c (List.mem_of_getElem? hk)).2.1
   omega
theorem rowsT_all {t : TextD} (ht : textB t = true) (ss : List StretchD) : (rowsT t ss).length ≤ 60 := by
 have h1 := rowsT_len ht ss t.length
 rw [List.take_length] at h1
 have := (text_ok ht).2.1
 omega
end Go.AB
