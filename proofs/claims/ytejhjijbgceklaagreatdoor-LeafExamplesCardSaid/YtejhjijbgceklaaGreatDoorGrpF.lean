/-
  What the walks through the program rest on: values, states, steps, calls (FbWords, FcNear, FdNear, KzWords).
-/
import Derived.Test.YtejhjijbgceklaaGreatDoorEdLead
import Derived.Test.YtejhjijbgceklaaGreatDoorGrpX
import Derived.Test.YtejhjijbgceklaaGreatDoorGrpC
import Derived.Test.YtejhjijbgceklaaGreatDoorAbFull
import Derived.Test.YtejhjijbgceklaaGreatDoorEhOrd
namespace Go.AB
open Go Go.RowKit
open Go.AB.Enc (cells)
open Go.PB (Chap TextD PlaceD ReadingD CopyD WayD)
theorem findIdx_at {α : Type} {q : α → Bool} {l : List α} {k : Nat} {x : α} (hx : l[k]? = some x) (h : ∀ y ∈ l.take k, q y = false) (hq : q x = true) : l.findIdx q = k := by
 obtain ⟨h1, h2⟩ := List.getElem?_eq_some_iff.1 hx
 rw [List.findIdx_eq h1]
 exact ⟨by rw [h2]; exact hq, fun j hj => h _ (List.mem_of_getElem? (i := j) (by rw [List.getElem?_take_of_lt hj, List.getElem?_eq_getElem (by omega)]))⟩
end Go.AB
namespace Go.Proofs.YtejhjijbgceklaaGreatDoor
set_option maxRecDepth 10000
open Go.RowKit Go.AB
open Go.AB.Enc (cells)
open Go.PB (Chap TextD PlaceD ReadingD CopyD WayD)
/-! ### What is beside something -/
end Go.Proofs.YtejhjijbgceklaaGreatDoor
namespace Go.AB
open Go Go.RowKit
open Go.AB.Enc (cells)
open Go.PB (Chap TextD PlaceD ReadingD CopyD WayD)
end Go.AB
namespace Go.Proofs.YtejhjijbgceklaaGreatDoor
set_option maxRecDepth 10000
open Go.RowKit Go.AB
open Go.AB.Enc (cells)
open Go.PB (Chap TextD PlaceD ReadingD CopyD WayD)
end Go.Proofs.YtejhjijbgceklaaGreatDoor
namespace Go.AB
open Go Go.RowKit
open Go.AB.Enc (cells)
open Go.PB (Chap TextD PlaceD ReadingD CopyD WayD)
theorem words_sorted (t : TextD) (f : L2 → Option L2) : (wordsF t f).Pairwise fun a b => ltW (keyP a) (keyP b) := by
 unfold wordsF wordsP
 rw [List.pairwise_flatten]
 constructor
 ·intro l hl
  obtain ⟨p, _, rfl⟩ := List.mem_map.1 hl
  unfold lineW
  cases (f p).isSome
  ·exact List.Pairwise.nil
  rw [cond_true]
  unfold lineN
  rw [List.pairwise_map]
  refine List.Pairwise.imp (fun {a b} h => ?_) List.pairwise_lt_range
  simp only [keyP, ltW]
  refine .inr ⟨trivial, .inr ⟨trivial, .inl ?_⟩⟩
  omega
 rw [List.pairwise_map]
 refine List.Pairwise.imp (fun {p q} h => ?_) (linesT_sorted t)
 intro a ha b hb
 unfold lineW at ha hb
 cases hp : (f p).isSome with
 | false => rw [hp] at ha; simp at ha
 | true =>
  cases hq : (f q).isSome with
  | false => rw [hq] at hb; simp at hb
  | true =>
   rw [hp, cond_true] at ha
   rw [hq, cond_true] at hb
   obtain ⟨i, _, rfl⟩ := List.mem_map.1 ha
   obtain ⟨j, _, rfl⟩ := List.mem_map.1 hb
   simp only [keyP, ltW]
   rcases h with h | ⟨h1, h2⟩
   ·exact .inl h
   exact .inr ⟨h1, .inl h2⟩
end Go.AB
namespace Go.Proofs.YtejhjijbgceklaaGreatDoor
set_option maxRecDepth 10000
open Go.RowKit Go.AB
open Go.AB.Enc (cells)
open Go.PB (Chap TextD PlaceD ReadingD CopyD WayD)
end Go.Proofs.YtejhjijbgceklaaGreatDoor
namespace Go.AB
open Go Go.RowKit
open Go.PB (Chap TextD PlaceD ReadingD CopyD WayD)
theorem words_nodup (t : TextD) (f : L2 → Option L2) : (wordsF t f).Nodup :=
 (words_sorted t f).imp fun {a b} h e => by subst e; exact ltW_irr _ h
theorem place_bd {t : TextD} {p : PlaceD} (ht : textB t = true) (hp : placeB t p = true) : (0 ≤ p.ch ∧ p.ch ≤ 5) ∧ (0 ≤ p.ln ∧ p.ln ≤ 9) ∧ 0 ≤ p.wd ∧ p.wd ≤ 9 := by
 obtain ⟨l, hw, h1, h2⟩ := placeB_true.1 hp
 have hl := words_bd ht hw
 dsimp only at hl
 omega
end Go.AB
