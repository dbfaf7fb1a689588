/-
 Contracts of the reference's functions of charts: the nearest places.
-/
import Derived.Test.YtjjklfgpffgnfabGreatDoorEbRef
import Derived.Test.YtjjklfgpffgnfabGreatDoorFeClose
namespace Go.AB
open Go Go.RowKit
open Go.AB.Enc (cells)
open Go.PB (Chap TextD PlaceD ReadingD CopyD WayD)
theorem lo_nil (key : PlaceD → List Int) (x : List Int) : IsLo [] key x none := ⟨fun _ y hy => by simp at hy, fun y h => by cases h⟩
theorem hi_nil (key : PlaceD → List Int) (x : List Int) : IsHi [] key x none := ⟨fun _ y hy => by simp at hy, fun y h => by cases h⟩
theorem lo_app {S T : List PlaceD} {key : PlaceD → List Int} {x : List Int} {a : Option PlaceD} (h : IsLo S key x a) (hT : ∀ y ∈ T, ¬ ltW (key y) x) : IsLo (S ++ T) key x a :=
 ⟨fun e y hy => by
  rcases List.mem_append.1 hy with hy | hy
  ·exact h.none e y hy
  ·exact hT y hy, fun y e => by
  obtain ⟨h1, h2, h3⟩ := h.some y e
  refine ⟨List.mem_append_left _ h1, h2, fun z hz hzx => ?_⟩
  rcases List.mem_append.1 hz with hz | hz
  ·exact h3 z hz hzx
  ·exact absurd hzx (hT z hz)⟩
theorem hi_app {S T : List PlaceD} {key : PlaceD → List Int} {x : List Int} {a : Option PlaceD} (h : IsHi S key x a) (hT : ∀ y ∈ T, ¬ ltW x (key y)) : IsHi (S ++ T) key x a :=
 ⟨fun e y hy => by
  rcases List.mem_append.1 hy with hy | hy
  ·exact h.none e y hy
  ·exact hT y hy, fun y e => by
  obtain ⟨h1, h2, h3⟩ := h.some y e
  refine ⟨List.mem_append_left _ h1, h2, fun z hz hzx => ?_⟩
  rcases List.mem_append.1 hz with hz | hz
  ·exact h3 z hz hzx
  ·exact absurd hzx (hT z hz)⟩
theorem lo_new {S T : List PlaceD} {key : PlaceD → List Int} {x : List Int} {z : PlaceD} (hz : z ∈ T) (hx : ltW (key z) x) (h : ∀ y ∈ S ++ T, ltW (key y) x → ¬ ltW (key z) (key y)) : IsLo (S ++ T) key x (some z) :=
 ⟨fun e => (by cases e), fun y e => by cases e; exact ⟨List.mem_append_right _ hz, hx, h⟩⟩
theorem hi_new {S T : List PlaceD} {key : PlaceD → List Int} {x : List Int} {z : PlaceD} (hz : z ∈ T) (hx : ltW x (key z)) (h : ∀ y ∈ S ++ T, ltW x (key y) → ¬ ltW (key y) (key z)) : IsHi (S ++ T) key x (some z) :=
 ⟨fun e => (by cases e), fun y e => by cases e; exact ⟨List.mem_append_right _ hz, hx, h⟩⟩
theorem hi_keep {S T : List PlaceD} {key : PlaceD → List Int} {x : List Int} {z : PlaceD} (h : IsHi S key x (some z)) (hT : ∀ y ∈ T, ¬ ltW (key y) (key z)) : IsHi (S ++ T) key x (some z) :=
 ⟨fun e => (by cases e), fun y e => by
  cases e
  obtain ⟨h1, h2, h3⟩ := h.some z rfl
  refine ⟨List.mem_append_left _ h1, h2, fun y hy hxy => ?_⟩
  rcases List.mem_append.1 hy with hy | hy
  ·exact h3 y hy hxy
  ·exact hT y hy⟩
theorem lo_one {S : List PlaceD} {key : PlaceD → List Int} {x : List Int} {a : Option PlaceD} {z : PlaceD} (h : IsLo S key x a) (hz : ltW (key z) x) (ha : ∀ y, a = some y → ltW (key y) (key z)) : IsLo (S ++ [z]) key x (some z) := by
 refine lo_new (List.mem_singleton.2 rfl) hz fun y hy hyx hzy => ?_
 rcases List.mem_append.1 hy with hy | hy
 ·cases a with
  | none => exact h.none rfl y hy hyx
  | some w => exact (h.some w rfl).2.2 y hy hyx (ltW_trans (ha w rfl) hzy)
 ·rw [List.mem_singleton] at hy; subst hy; exact ltW_irr _ hzy
theorem lo_old {S : List PlaceD} {key : PlaceD → List Int} {x : List Int} {w z : PlaceD} (h : IsLo S key x (some w)) (hz : ¬ ltW (key w) (key z)) : IsLo (S ++ [z]) key x (some w) :=
 ⟨fun e => (by cases e), fun y e => by
  cases e
  obtain ⟨h1, h2, h3⟩ := h.some w rfl
  refine ⟨List.mem_append_left _ h1, h2, fun y hy hyx => ?_⟩
  rcases List.mem_append.1 hy with hy | hy
  ·exact h3 y hy hyx
  ·rw [List.mem_singleton] at hy; subst hy; exact hz⟩
theorem hi_one {S : List PlaceD} {key : PlaceD → List Int} {x : List Int} {a : Option PlaceD} {z : PlaceD} (h : IsHi S key x a) (hz : ltW x (key z)) (ha : ∀ y, a = some y → ltW (key z) (key y)) : IsHi (S ++ [z]) key x (some z) := by
 refine hi_new (List.mem_singleton.2 rfl) hz fun y hy hyx hzy => ?_
 rcases List.mem_append.1 hy with hy | hy
 ·cases a with
  | none => exact h.none rfl y hy hyx
  | some w => exact (h.some w rfl).2.2 y hy hyx (ltW_trans hzy (ha w rfl))
 ·rw [List.mem_singleton] at hy; subst hy; exact ltW_irr _ hzy
theorem hi_old {S : List PlaceD} {key : PlaceD → List Int} {x : List Int} {w z : PlaceD} (h : IsHi S key x (some w)) (hz : ¬ ltW (key z) (key w)) : IsHi (S ++ [z]) key x (some w) :=
 hi_keep h fun y hy => by rw [List.mem_singleton] at hy; subst hy; exact hz
end Go.AB
