/-
 The words of a copy; its text is a valid one.
-/
import Derived.Test.YtejhjijbgceklaaGreatDoorGrpH
namespace Go.AB
open Go Go.RowKit
open Go.AB.Enc (cells)
open Go.PB (Chap TextD PlaceD ReadingD CopyD WayD)
section
variable {t : TextD} {rs : List ReadingD}
/-! ### The words of a copy -/
theorem progR_mem {own s : ByteArray} : ∀ {l : List ReadingD}, s ∈ progR own l → s = own ∨ ∃ r ∈ l, s = r.word
 | [], h => by simp [progR] at h; exact .inl h
 | r :: l, h => by
  rw [progR] at h
  by_cases h2 : r.kind = 2
  ·rw [decide_eq_true h2, cond_true] at h
   rcases List.mem_cons.1 h with rfl | h
   ·exact .inr ⟨r, List.mem_cons_self .., rfl⟩
   ·rcases progR_mem h with h | ⟨x, hx, hs⟩
    ·exact .inl h
    ·exact .inr ⟨x, List.mem_cons_of_mem _ hx, hs⟩
  ·rw [decide_eq_false h2, cond_false] at h
   by_cases h1 : r.kind = 1
   ·rw [decide_eq_true h1] at h; cases h
   ·rw [decide_eq_false h1, cond_false, List.mem_singleton] at h
    exact .inr ⟨r, List.mem_cons_self .., h⟩
theorem readL_mem (hv : rsB t rs = true) {ch ln : Int} {l : List ByteArray} {s : ByteArray} (h : s ∈ readL rs ch ln l) : s ∈ l ∨ ∃ r ∈ rs, s = r.word ∧ wordB s = true := by
 unfold readL lineR at h
 obtain ⟨w, _, h⟩ := List.mem_flatMap.1 h
 rw [cellR_prog hv] at h
 obtain ⟨h1, h2⟩ := List.mem_filter.1 h
 have hne : s ≠ ByteArray.empty := by simpa using h2
 rcases progR_mem h1 with rfl | ⟨r, hr, rfl⟩
 ·left
  unfold ownW at hne ⊢
  cases hw : l[w]? with
  | none => rw [hw] at hne; exact absurd rfl hne
  | some x => rw [Option.getD_some]; exact List.mem_of_getElem? hw
 ·right
  have hr2 := (List.mem_filter.1 hr).1
  refine ⟨r, hr2, rfl, ?_⟩
  obtain ⟨_, _, hk⟩ := readingB_kind ((rsB_true.1 hv).1 r hr2)
  rcases hk with ⟨_, _, _, h4⟩ | ⟨_, _, _, h4⟩ | ⟨_, _, _, h4, _⟩
  ·exact absurd h4 hne
  ·exact h4
  ·exact h4
theorem readT_text (ht : textB t = true) (hv : rsB t rs = true) (hl : linesB t rs = true) : textB (readT t rs) = true := by
 unfold linesB at hl
 unfold textB at ht ⊢
 rw [Bool.and_eq_true, Bool.and_eq_true, decide_eq_true_eq, List.all_eq_true] at ht ⊢
 obtain ⟨⟨h1, h2⟩, h3⟩ := ht
 refine ⟨⟨by rw [readT_len]; exact h1, fun x hx => ?_⟩, ?_⟩
 ·obtain ⟨k, hk⟩ := List.getElem?_of_mem hx
  have hk2 := hk
  rw [readT_get] at hk2
  obtain ⟨c, hc, rfl⟩ := Option.map_eq_some_iff.1 hk2
  have h4 := h2 c (mem_of_get hc)
  unfold chapB at h4 ⊢
  rw [Bool.and_eq_true, Bool.and_eq_true, List.all_eq_true] at h4 ⊢
  refine ⟨⟨h4.1.1, by rw [readC_len]; exact h4.1.2⟩, fun l' hl' => ?_⟩
  have h5 := List.all_eq_true.1 (List.all_eq_true.1 hl _ hx) l' hl'
  unfold lineB
  rw [h5, Bool.true_and, List.all_eq_true]
  intro s hs
  obtain ⟨m, hm⟩ := List.getElem?_of_mem hl'
  unfold readC at hm
  dsimp only at hm
  rw [List.getElem?_mapIdx] at hm
  obtain ⟨l, hl2, rfl⟩ := Option.map_eq_some_iff.1 hm
  rcases readL_mem hv hs with hs | ⟨_, _, _, hs⟩
  ·have h6 := h4.2 l (mem_of_get hl2)
   unfold lineB at h6
   rw [Bool.and_eq_true, List.all_eq_true] at h6
   exact h6.2 s hs
  ·exact hs
 ·have : (readT t rs).map (·.id) = t.map (·.id) := by
   apply List.ext_getElem?
   intro k
   rw [List.getElem?_map, List.getElem?_map, readT_get]
   cases t[k]? <;> rfl
  rw [this]; exact h3
end
end Go.AB
