/-
 Charts in plain words: the fewest stretches; stretches in another order.
-/
import Derived.Test.YtjjklfgpffgnfaaGreatDoorGoJoin
namespace Go.AB
open Go Go.RowKit
open Go.AB.Enc (cells)
open Go.PB (Chap TextD PlaceD ReadingD CopyD WayD)
theorem ord_lt {P : List StretchD} (h : P.Pairwise gapS) {i j : Nat} {s u : StretchD} (hs : P[i]? = some s) (hu : P[j]? = some u) (hij : i < j) : gapS s u := by
 obtain ⟨x1, x2⟩ := List.getElem?_eq_some_iff.1 hs
 obtain ⟨y1, y2⟩ := List.getElem?_eq_some_iff.1 hu
 have := List.pairwise_iff_getElem.1 h i j x1 y1 hij
 rwa [x2, y2] at this
/-- no two begin in one and the same stretch of an edition with the same lines -/
theorem one_start {t : TextD} {es : List StretchD} (hS : Sound t es) {P : List StretchD} (hI : PlainI (asOf es) (linesT t) P) {a b : Nat} {s n u : StretchD} (hs : P[a]? = some s) (hn : P[b]? = some n) (hab : a < b) (hu : u ∈ es) (h1 : hasB u (s.ch, s.fr) = true) (h2 : hasB u (n.ch, n.fr) = true) : False := by
 have ls := hI.lt s (List.mem_of_getElem? hs)
 have ln := hI.lt n (List.mem_of_getElem? hn)
 have hsn := ord_lt hI.ord hs hn hab
 rw [hasB_true] at h1 h2
 dsimp only at h1 h2
 have hpu : hasB u (n.ch, n.fr - 1) = true := by
  rw [hasB_true]; dsimp only
  rcases hsn with h | ⟨_, h⟩ <;> omega
 have hpa : asOf es (n.ch, n.fr - 1) = some (toE u (n.ch, n.fr - 1)) := (asOf_iff hS.no).2 ⟨u, hu, hpu, rfl⟩
 have hqa : asOf es (n.ch, n.fr) = some (toE u (n.ch, n.fr)) := (asOf_iff hS.no).2 ⟨u, hu, by rw [hasB_true]; exact h2, rfl⟩
 obtain ⟨m, hm, hmb, hmt⟩ := hI.has _ _ ((mapOk_as hS).dom _ _ hpa) hpa
 have hnq := (hI.is n (List.mem_of_getElem? hn) (n.ch, n.fr) (by rw [hasB_true]; exact ⟨rfl, Int.le_refl _, ln⟩)).2
 rw [hqa] at hnq
 have hnt := Option.some.inj hnq
 rw [hasB_true] at hmb
 dsimp only at hmb
 obtain ⟨j, hj⟩ := List.getElem?_of_mem hm
 have hjb : j < b := by
  rcases Nat.lt_trichotomy j b with h | h | h
  ·exact h
  ·subst h; rw [hn] at hj; cases hj; omega
  ·have := ord_lt hI.ord hn hj h
   unfold gapS at this
   omega
 have hjb1 : j = b - 1 := by
  rcases Nat.eq_or_lt_of_le (Nat.le_sub_one_of_lt hjb) with h | h
  ·exact h
  ·obtain ⟨w, hw⟩ : ∃ w, P[b - 1]? = some w := ⟨_, List.getElem?_eq_getElem (by have := (List.getElem?_eq_some_iff.1 hn).1; omega)⟩
   have g1 := ord_lt hI.ord hj hw h
   have g2 := ord_lt hI.ord hw hn (by omega)
   have lw := hI.lt w (List.mem_of_getElem? hw)
   unfold gapS at g1 g2
   omega
 have gm := ord_lt hI.ord hj hn hjb
 have lm := hI.lt m hm
 subst hjb1
 refine hI.two (b - 1) m n hj (by rw [show b - 1 + 1 = b by omega]; exact hn) ?_
 simp only [toE, Prod.mk.injEq] at hmt hnt
 unfold gapS at gm
 unfold joinS
 omega
theorem plain_min {t : TextD} {es : List StretchD} (hS : Sound t es) : (plainS (asOf es) (linesT t)).length ≤ es.length := by
 obtain ⟨P, hP⟩ : ∃ P, plainS (asOf es) (linesT t) = P := ⟨_, rfl⟩
 have hI := plainS_I (asOf es) t
 rw [hP] at hI ⊢
 have hcov : ∀ s ∈ P, ∃ u, es[es.findIdx fun u => hasB u (s.ch, s.fr)]? = some u ∧ hasB u (s.ch, s.fr) = true := fun s hs => by
  obtain ⟨_, h2⟩ := hI.is s hs (s.ch, s.fr) (hasB_true.2 ⟨rfl, Int.le_refl _, hI.lt s hs⟩)
  obtain ⟨u, hu, hb, _⟩ := (asOf_iff hS.no).1 h2
  have hlt : es.findIdx (fun u => hasB u (s.ch, s.fr)) < es.length := List.findIdx_lt_length.2 ⟨u, hu, hb⟩
  exact ⟨_, List.getElem?_eq_getElem hlt, List.findIdx_getElem (p := fun u => hasB u (s.ch, s.fr)) (xs := es) (w := hlt)⟩
 have hn : (P.map fun s => es.findIdx fun u => hasB u (s.ch, s.fr)).Nodup := by
  show List.Pairwise _ _
  rw [List.pairwise_map, List.pairwise_iff_getElem]
  intro i j hi hj hij e
  obtain ⟨u, hu, hb⟩ := hcov P[i] (List.getElem_mem hi)
  obtain ⟨w, hw, hc⟩ := hcov P[j] (List.getElem_mem hj)
  rw [e] at hu
  rw [hw] at hu
  cases hu
  exact one_start hS hI (List.getElem?_eq_getElem hi) (List.getElem?_eq_getElem hj) hij (List.mem_of_getElem? hw) hb hc
 have := hn.length_le_of_subset (l₂ := List.range es.length) fun x hx => by
  obtain ⟨s, hs, rfl⟩ := List.mem_map.1 hx
  obtain ⟨u, hu, _⟩ := hcov s hs
  exact List.mem_range.2 (List.getElem?_eq_some_iff.1 hu).1
 rwa [List.length_map, List.length_range] at this
/-- stretches from some place on, and then those ahead of it -/
def rotL (es : List StretchD) (r : Nat) : List StretchD := es.drop r ++ es.take r
theorem rot_len (es : List StretchD) {r : Nat} (hr : r ≤ es.length) : (rotL es r).length = es.length := by
 unfold rotL; rw [List.length_append, List.length_drop, List.length_take]; omega
theorem rot_get {es : List StretchD} {r i : Nat} (hr : r < es.length) (hi : i < es.length) : (rotL es r)[i]? = es[(i + r) % es.length]? := by
 unfold rotL
 by_cases h : i + r < es.length
 ·rw [List.getElem?_append_left (by rw [List.length_drop]; omega), List.getElem?_drop, Nat.mod_eq_of_lt h, Nat.add_comm]
 ·have e : (i + r) % es.length = i + r - es.length := by rw [Nat.mod_eq_sub_mod (by omega), Nat.mod_eq_of_lt (by omega)]
  rw [List.getElem?_append_right (by rw [List.length_drop]; omega), List.length_drop, e, List.getElem?_take, if_pos (by omega)]
  congr 1
  omega
theorem clash_sym (a b : StretchD) : clashB a b = clashB b a := by
 rw [Bool.eq_iff_iff]
 simp only [clashB, meetB, Bool.or_eq_true, Bool.and_eq_true, decide_eq_true_eq]
 omega
theorem perm_sound {t : TextD} {es fs : List StretchD} (hS : Sound t es) (hp : fs.Perm es) : Sound t fs ∧ asOf fs = asOf es := by
 have hno : firstC fs = none := by
  have h1 : es.Pairwise fun a b => ¬ clashB a b = true := List.pairwise_iff_getElem.2 fun i j hi hj hij hc => firstC_none hS.no i j ⟨hij, es[i], es[j], List.getElem?_eq_getElem hi, List.getElem?_eq_getElem hj, hc⟩
  have h2 : fs.Pairwise fun a b => ¬ clashB a b = true := (hp.pairwise_iff fun {a b} h => by rw [clash_sym]; exact h).2 h1
  refine firstC_eq (o := none) fun a b ⟨hab, x, y, hx, hy, hc⟩ => ?_
  obtain ⟨x1, x2⟩ := List.getElem?_eq_some_iff.1 hx
  obtain ⟨y1, y2⟩ := List.getElem?_eq_some_iff.1 hy
  have := List.pairwise_iff_getElem.1 h2 a b x1 y1 hab
  rw [x2, y2] at this
  exact this hc
 refine ⟨⟨hS.tx, by rw [hp.length_eq]; exact hS.len, fun s hs => hS.str s (hp.mem_iff.1 hs), hno⟩, ?_⟩
 funext p
 cases h : asOf es p with
 | some v =>
  obtain ⟨s, hs, q⟩ := (asOf_iff hS.no).1 h
  exact (asOf_iff hno).2 ⟨s, hp.mem_iff.2 hs, q⟩
 | none =>
  cases h2 : asOf fs p with
  | none => rfl
  | some v =>
   obtain ⟨s, hs, q⟩ := (asOf_iff hno).1 h2
   rw [(asOf_iff hS.no).2 ⟨s, hp.mem_iff.1 hs, q⟩] at h
   cases h
theorem rot_perm (es : List StretchD) (r : Nat) : (rotL es r).Perm es := by
 unfold rotL
 have := List.perm_append_comm (l₁ := es.drop r) (l₂ := es.take r)
 rwa [List.take_append_drop] at this
section
variable {t : TextD} {e : EditionD} {p : PlaceD}
/-- what is so of the plain edition -/
structure FewOk (t : TextD) (e : EditionD) (P : List StretchD) : Prop where
 val : plainE t e = ⟨e.id, P⟩
 so : Sound t P
 mp : asOf P = asOf e.ss
 len : P.length ≤ e.ss.length
 ord : P.Pairwise gapS
 two : ∀ (k : Nat) s u, P[k]? = some s → P[k + 1]? = some u → ¬ joinS s u
theorem plain_few (h : soundEr t e = 0) : FewOk t e (plainS (asOf e.ss) (linesT t)) := by
 have hS := soundEr_sound h
 have hI := plainS_I (asOf e.ss) t
 have hm := plain_min hS
 exact ⟨by rw [plain_same hS.ok]; simp [plainE, h], plain_sound hS.tx (mapOk_as hS) (Nat.le_trans hm hS.len), plain_asOf (mapOk_as hS), hm, hI.ord, hI.two⟩
theorem refer_same {y : EditionD} (hx : soundEr t e = 0) (hy : soundEr t y = 0) (ha : asOf y.ss = asOf e.ss) : referEr t y p = referEr t e p ∧ referV t y p = referV t e p := by
 have h1 : referEr t y p = referEr t e p := by simp [referEr, hx, hy, ha]
 exact ⟨h1, by simp [referV, h1, ha]⟩
theorem plain_perm {fs : List StretchD} (h : soundEr t e = 0) (hp : fs.Perm e.ss) : soundEr t ⟨e.id, fs⟩ = 0 ∧ plainE t ⟨e.id, fs⟩ = plainE t e := by
 obtain ⟨h1, h2⟩ := perm_sound (soundEr_sound h) hp
 have h3 := soundEr_of h1 (sound_id h)
 refine ⟨h3, ?_⟩
 rw [(plain_few h).val, (plain_few h3).val]
 dsimp only
 rw [h2]
end
end Go.AB
