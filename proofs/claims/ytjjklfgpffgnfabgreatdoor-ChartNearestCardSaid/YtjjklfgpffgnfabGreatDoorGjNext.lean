/-
 Charts in plain words: what is next to something is always there.
-/
import Derived.Test.YtjjklfgpffgnfabGreatDoorGrpG
import Derived.Test.YtjjklfgpffgnfabGreatDoorFfNear
namespace Go.AB
open Go Go.RowKit
open Go.AB.Enc (cells)
open Go.PB (Chap TextD PlaceD ReadingD CopyD WayD)
theorem lo_ex (S : List PlaceD) (key : PlaceD → List Int) (x : List Int) : ∃ a, IsLo S key x a := by
 suffices h : ∀ n, ∃ a, IsLo (S.take n) key x a by
  have := h S.length
  rwa [List.take_length] at this
 intro n
 induction n with
 | zero => exact ⟨none, lo_nil _ _⟩
 | succ n ih =>
  obtain ⟨a, ha⟩ := ih
  rw [List.take_add_one]
  cases hz : S[n]? with
  | none => exact ⟨a, by simpa using ha⟩
  | some z =>
   rw [Option.toList_some]
   by_cases hx : ltW (key z) x
   ·cases a with
    | none => exact ⟨some z, lo_one ha hx fun y hy => by cases hy⟩
    | some w =>
     by_cases hw : ltW (key w) (key z)
     ·exact ⟨some z, lo_one ha hx fun y hy => by cases hy; exact hw⟩
     ·exact ⟨some w, lo_old ha hw⟩
   ·exact ⟨a, lo_app ha fun y hy => by rw [List.mem_singleton] at hy; subst hy; exact hx⟩
theorem hi_ex (S : List PlaceD) (key : PlaceD → List Int) (x : List Int) : ∃ a, IsHi S key x a := by
 suffices h : ∀ n, ∃ a, IsHi (S.take n) key x a by
  have := h S.length
  rwa [List.take_length] at this
 intro n
 induction n with
 | zero => exact ⟨none, hi_nil _ _⟩
 | succ n ih =>
  obtain ⟨a, ha⟩ := ih
  rw [List.take_add_one]
  cases hz : S[n]? with
  | none => exact ⟨a, by simpa using ha⟩
  | some z =>
   rw [Option.toList_some]
   by_cases hx : ltW x (key z)
   ·cases a with
    | none => exact ⟨some z, hi_one ha hx fun y hy => by cases hy⟩
    | some w =>
     by_cases hw : ltW (key z) (key w)
     ·exact ⟨some z, hi_one ha hx fun y hy => by cases hy; exact hw⟩
     ·exact ⟨some w, hi_old ha hw⟩
   ·exact ⟨a, hi_app ha fun y hy => by rw [List.mem_singleton] at hy; subst hy; exact hx⟩
section
variable {t : TextD} {e : EditionD} {p q : PlaceD} {r : RefD}
theorem near_ok (hno : asOf e.ss (p.ch, p.ln) = none) : ∃ a b, nearL t e.ss p = a.toList ++ b.toList ∧ IsLo (wordsF t (asOf e.ss)) keyP (keyP p) a ∧ IsHi (wordsF t (asOf e.ss)) keyP (keyP p) b := by
 obtain ⟨a, ha⟩ := lo_ex (wordsF t (asOf e.ss)) keyP (keyP p)
 obtain ⟨b, hb⟩ := hi_ex (wordsF t (asOf e.ss)) keyP (keyP p)
 refine ⟨a, b, ?_, ha, hb⟩
 unfold nearL
 rw [hno]
 exact nearS_eq (keyP_ok _) ⟨a, b, rfl, ha, hb⟩
/-- the first one or the second one -/
theorem two_step {a b : Option PlaceD} {k : Nat} (h : (a.toList ++ b.toList)[k]? = some q) : (a = some q ∧ k = 0) ∨ (b = some q ∧ k = a.toList.length) := by
 cases a with
 | none =>
  cases b with
  | none => simp at h
  | some y => match k, h with
   | 0, h => cases h; exact .inr ⟨rfl, rfl⟩
   | k + 1, h => simp at h
 | some x => match k, h with
  | 0, h => cases h; exact .inl ⟨rfl, rfl⟩
  | k + 1, h =>
   cases b with
   | none => simp at h
   | some y => match k, h with
    | 0, h => cases h; exact .inr ⟨rfl, rfl⟩
    | k + 1, h => simp at h
theorem words_refer (h : soundEr t e = 0) (hq : q ∈ wordsF t (asOf e.ss)) : placeB t q = true ∧ referEr t e q = 0 ∧ referV t e q = rfV (asOf e.ss) q := by
 obtain ⟨h1, h2⟩ := mem_words.1 hq
 obtain ⟨v, hv⟩ := Option.isSome_iff_exists.1 h2
 obtain ⟨h3, h4⟩ := referEr_eq h h1 hv
 exact ⟨h1, h3, by rw [h4]; simp [rfV, hv]⟩
theorem refer_words (h : soundEr t e = 0) (hp : placeB t p = true) (h0 : referEr t e p = 0) : p ∈ wordsF t (asOf e.ss) ∧ referV t e p = rfV (asOf e.ss) p := by
 obtain ⟨v, hv, hV⟩ := refer_some h hp h0
 exact ⟨mem_words.2 ⟨hp, by rw [hv]; rfl⟩, by rw [hV]; simp [rfV, hv]⟩
end
end Go.AB
