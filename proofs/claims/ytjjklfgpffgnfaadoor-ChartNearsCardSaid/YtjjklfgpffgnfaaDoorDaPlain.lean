/-
  Charts in plain words: the last line of a chapter; lines that are moved.
-/
import Derived.Test.YtjjklfgpffgnfaaDoorCxTells
namespace Go.AB
open Go Go.RowKit
open Go.PB (Chap TextD PlaceD ReadingD CopyD WayD)
/-! ### Lines and numbers of a sound edition -/
structure Sound (t : TextD) (ss : List StretchD) : Prop where
  tx : textB t = true
  len : ss.length ≤ 12
  str : ∀ s ∈ ss, strB t s = true
  no : firstC ss = none
theorem soundEr_sound {t : TextD} {e : EditionD} (h : soundEr t e = 0) : Sound t e.ss := by
  obtain ⟨h0, hf⟩ := soundEr_check h
  obtain ⟨h1, h2⟩ := checkEr_ok h0
  simp only [editionB, Bool.and_eq_true, decide_eq_true_eq, List.all_eq_true] at h2
  exact ⟨h1, h2.2.1, h2.2.2, hf⟩
theorem Sound.ok {t : TextD} {ss : List StretchD} (h : Sound t ss) : ∀ s ∈ ss, SOk s := fun s hs => str_ok h.tx (h.str s hs)
theorem least_of {p : Nat → Prop} (h : ∃ n, p n) : ∃ n, p n ∧ ∀ m, m < n → ¬ p m := by
  obtain ⟨n, hn⟩ := h
  induction n using Nat.strongRecOn with
  | _ n ih =>
    by_cases hx : ∃ m, m < n ∧ p m
    · obtain ⟨m, h1, h2⟩ := hx
      exact ih m h1 h2
    · exact ⟨n, hn, fun m hm hp => hx ⟨m, hm, hp⟩⟩
theorem firstC_none {ss : List StretchD} (h : firstC ss = none) : ∀ a b, ¬ isClash ss a b := by
  unfold firstC at h
  split at h
  · rename_i hx
    have h2 := Exists.choose_spec hx
    rw [h] at h2
    exact h2
  · rename_i hx
    by_cases hc : ∃ a b, isClash ss a b
    · exfalso
      classical
      obtain ⟨a, b, hab⟩ := hc
      -- the first one
      have hex : ∃ n, ∃ a b, isClash ss a b ∧ a * (ss.length + 1) + b = n := ⟨_, a, b, hab, rfl⟩
      obtain ⟨n0, ⟨c, d, hcd, hn⟩, hmin⟩ := least_of hex
      rw [← hn] at hmin
      refine hx ⟨some (c, d), hcd, fun x y hxy => ?_⟩
      rcases Nat.lt_trichotomy c x with h1 | h1 | h1
      · exact .inl h1
      · subst h1
        refine .inr ⟨rfl, ?_⟩
        by_cases h2 : d ≤ y
        · exact h2
        · exact absurd ⟨c, y, hxy, rfl⟩ (hmin (c * (ss.length + 1) + y) (by show _ < c * (ss.length + 1) + d; omega))
      · have hy : y < ss.length := by
          obtain ⟨_, _, _, _, hy, _⟩ := hxy
          exact (List.getElem?_eq_some_iff.1 hy).1
        refine absurd ⟨x, y, hxy, rfl⟩ (hmin (x * (ss.length + 1) + y) ?_)
        have : (x + 1) * (ss.length + 1) ≤ c * (ss.length + 1) := Nat.mul_le_mul_right _ h1
        rw [Nat.add_mul, Nat.one_mul] at this
        show _ < c * (ss.length + 1) + d
        omega
    · exact fun a b hab => hc ⟨a, b, hab⟩
theorem clash_base {s u : StretchD} {p : L2} (hs : hasB s p = true) (hu : hasB u p = true) : clashB s u = true := by
  rw [hasB_true] at hs hu
  unfold clashB meetB
  simp only [Bool.or_eq_true, Bool.and_eq_true, decide_eq_true_eq]
  left; omega
theorem clash_num {s u : StretchD} {q : L2} (hs : hasE s q = true) (hu : hasE u q = true) : clashB s u = true := by
  rw [hasE_true] at hs hu
  unfold clashB meetB
  simp only [Bool.or_eq_true, Bool.and_eq_true, decide_eq_true_eq]
  right; omega
theorem one_of {ss : List StretchD} (h : firstC ss = none) {s u : StretchD} (hs : s ∈ ss) (hu : u ∈ ss) (hc : clashB s u = true) (hc' : clashB u s = true) : s = u := by
  obtain ⟨i, hi⟩ := List.getElem?_of_mem hs
  obtain ⟨j, hj⟩ := List.getElem?_of_mem hu
  rcases Nat.lt_trichotomy i j with h1 | h1 | h1
  · exact absurd ⟨h1, s, u, hi, hj, hc⟩ (firstC_none h i j)
  · subst h1; rw [hi] at hj; cases hj; rfl
  · exact absurd ⟨h1, u, s, hj, hi, hc'⟩ (firstC_none h j i)
theorem hasE_toE {s : StretchD} {p : L2} (h : hasB s p = true) : hasE s (toE s p) = true := by
  rw [hasB_true] at h
  rw [hasE_true]
  refine ⟨rfl, ?_, ?_⟩ <;> (simp only [toE]; omega)
theorem hasB_toB {s : StretchD} {q : L2} (h : hasE s q = true) : hasB s (toB s q) = true := by
  rw [hasE_true] at h
  rw [hasB_true]
  refine ⟨rfl, ?_, ?_⟩ <;> (simp only [toB]; omega)
theorem toB_toE {s : StretchD} {p : L2} (h : hasB s p = true) : toB s (toE s p) = p := by
  rw [hasB_true] at h
  obtain ⟨a, b⟩ := p
  simp only [toB, toE, Prod.mk.injEq]; simp only at h; omega
theorem toE_toB {s : StretchD} {q : L2} (h : hasE s q = true) : toE s (toB s q) = q := by
  rw [hasE_true] at h
  obtain ⟨a, b⟩ := q
  simp only [toB, toE, Prod.mk.injEq]; simp only at h; omega
theorem asOf_iff {ss : List StretchD} (h : firstC ss = none) {p v : L2} : asOf ss p = some v ↔ ∃ s ∈ ss, hasB s p = true ∧ toE s p = v := by
  unfold asOf
  constructor
  · intro hv
    cases hf : ss.find? fun s => hasB s p with
    | none => rw [hf] at hv; cases hv
    | some s =>
      rw [hf] at hv
      simp only [Option.map_some, Option.some.injEq] at hv
      exact ⟨s, List.mem_of_find?_eq_some hf, List.find?_some (p := fun s => hasB s p) hf, hv⟩
  · rintro ⟨s, hs, hb, rfl⟩
    cases hf : ss.find? fun s => hasB s p with
    | none => rw [List.find?_eq_none] at hf; exact absurd hb (hf s hs)
    | some u =>
      have h1 := List.find?_some (p := fun s => hasB s p) hf
      rw [one_of h hs (List.mem_of_find?_eq_some hf) (clash_base hb h1) (clash_base h1 hb)]
      rfl
theorem backOf_iff {ss : List StretchD} (h : firstC ss = none) {p v : L2} : backOf ss v = some p ↔ ∃ s ∈ ss, hasE s v = true ∧ toB s v = p := by
  unfold backOf
  constructor
  · intro hv
    cases hf : ss.find? fun s => hasE s v with
    | none => rw [hf] at hv; cases hv
    | some s =>
      rw [hf] at hv
      simp only [Option.map_some, Option.some.injEq] at hv
      exact ⟨s, List.mem_of_find?_eq_some hf, List.find?_some (p := fun s => hasE s v) hf, hv⟩
  · rintro ⟨s, hs, hb, rfl⟩
    cases hf : ss.find? fun s => hasE s v with
    | none => rw [List.find?_eq_none] at hf; exact absurd hb (hf s hs)
    | some u =>
      have h1 := List.find?_some (p := fun s => hasE s v) hf
      rw [one_of h hs (List.mem_of_find?_eq_some hf) (clash_num hb h1) (clash_num h1 hb)]
      rfl
/-- back and forth -/
theorem back_iff {ss : List StretchD} (h : firstC ss = none) {p v : L2} : backOf ss v = some p ↔ asOf ss p = some v := by
  rw [backOf_iff h, asOf_iff h]
  constructor
  · rintro ⟨s, hs, hb, rfl⟩
    exact ⟨s, hs, hasB_toB hb, toE_toB hb⟩
  · rintro ⟨s, hs, hb, rfl⟩
    exact ⟨s, hs, hasE_toE hb, toB_toE hb⟩
theorem asOf_line {t : TextD} {ss : List StretchD} (h : Sound t ss) {p v : L2} (hv : asOf ss p = some v) : ∃ r ∈ rowsT t ss, (r.ch, r.ln) = p ∧ (r.au, r.nu) = v := by
  obtain ⟨s, hs, hb, rfl⟩ := (asOf_iff h.no).1 hv
  have h1 := h.str s hs
  have h2 := h.ok s hs
  rw [hasB_true] at hb
  simp only [strB, sB1, sB2, Bool.and_eq_true, inB_true] at h1
  obtain ⟨c, hc⟩ : ∃ c, t[p.1.toNat]? = some c := ⟨_, List.getElem?_eq_getElem (by omega)⟩
  have hn := nlines_get (t := t) (c := s.ch) (k := p.1.toNat) (by omega) hc
  obtain ⟨l, hl⟩ : ∃ l, c.lines[p.2.toNat]? = some l := ⟨_, List.getElem?_eq_getElem (by have := h2.fr; omega)⟩
  have hp : (((p.1.toNat : Nat) : Int), ((p.2.toNat : Nat) : Int)) = p := Prod.ext (by simp only; omega) (by simp only; have := h2.fr; omega)
  refine ⟨rowOf ss (((p.1.toNat : Nat) : Int), ((p.2.toNat : Nat) : Int)) l.length, ?_, ?_, ?_⟩
  · unfold rowsT
    refine List.mem_flatten.2 ⟨_, List.mem_of_getElem? (i := p.1.toNat) (by rw [List.getElem?_mapIdx, hc]; rfl), ?_⟩
    exact List.mem_of_getElem? (i := p.2.toNat) (by rw [List.getElem?_mapIdx, hl]; rfl)
  · exact hp
  · unfold rowOf
    simp only
    rw [hp, hv]
    rfl
/-! ### Lines that are moved -/
/-! ### Splitting and joining -/
end Go.AB
