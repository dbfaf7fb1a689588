/-
  What the walks through the program rest on: values, states, steps, calls (MaAlign, MbFound, McWay).
-/
import Derived.Test.YtejhjijbgceklaaGreatDoorAdFew
import Derived.Test.YtejhjijbgceklaaGreatDoorHaCopy
import Derived.Test.YtejhjijbgceklaaGreatDoorKyCopy
namespace Go.AB
open Go Go.RowKit
open Go.PB (Chap TextD PlaceD ReadingD CopyD WayD)
/-- a way from line to line, with so many readings -/
inductive Al : List ByteArray → List ByteArray → Nat → Prop
 | nil : Al [] [] 0
 | same (x : ByteArray) {a b : List ByteArray} {n : Nat} : Al a b n → Al (x :: a) (x :: b) n
 | sub (x y : ByteArray) {a b : List ByteArray} {n : Nat} : Al a b n → Al (x :: a) (y :: b) (n + 1)
 | del (x : ByteArray) {a b : List ByteArray} {n : Nat} : Al a b n → Al (x :: a) b (n + 1)
 | ins (y : ByteArray) {a b : List ByteArray} {n : Nat} : Al a b n → Al a (y :: b) (n + 1)
theorem Al.refl : ∀ a : List ByteArray, Al a a 0
 | [] => .nil
 | x :: a => .same x (Al.refl a)
theorem Al.puts : ∀ b : List ByteArray, Al [] b b.length
 | [] => .nil
 | y :: b => .ins y (Al.puts b)
theorem Al.strikes : ∀ a : List ByteArray, Al a [] a.length
 | [] => .nil
 | x :: a => .del x (Al.strikes a)
theorem Al.app {a b : List ByteArray} {m : Nat} (h : Al a b m) : ∀ {a' b' : List ByteArray} {n : Nat}, Al a' b' n → Al (a ++ a') (b ++ b') (m + n) := by
 induction h with
 | nil => intro a' b' n h2; simpa using h2
 | same x _ ih => intro a' b' n h2; exact .same x (ih h2)
 | sub x y _ ih => intro a' b' n h2; rw [Nat.succ_add]; exact .sub x y (ih h2)
 | del x _ ih => intro a' b' n h2; rw [Nat.succ_add]; exact .del x (ih h2)
 | ins y _ ih => intro a' b' n h2; rw [Nat.succ_add]; exact .ins y (ih h2)
theorem Al.flip {a b : List ByteArray} {m : Nat} (h : Al a b m) : Al b a m := by
 induction h with
 | nil => exact .nil
 | same x _ ih => exact .same x ih
 | sub x y _ ih => exact .sub y x ih
 | del x _ ih => exact .ins x ih
 | ins y _ ih => exact .del y ih
theorem Al.zero {a b : List ByteArray} (h : Al a b 0) : a = b := by
 generalize e : (0 : Nat) = n at h
 induction h with
 | nil => rfl
 | same x _ ih => rw [ih e]
 | sub => cases e
 | del => cases e
 | ins => cases e
theorem Al.trans {a b : List ByteArray} {m : Nat} (h : Al a b m) : ∀ {c : List ByteArray} {n : Nat}, Al b c n → ∃ k, k ≤ m + n ∧ Al a c k := by
 induction h with
 | nil => intro c n h2; exact ⟨n, by omega, h2⟩
 | @same x a b m _ ih =>
  intro c n h2
  generalize e : x :: b = bb at h2
  induction h2 with
  | nil => cases e
  | same y h3 _ => cases e; obtain ⟨k, h4, h5⟩ := ih h3; exact ⟨k, h4, .same _ h5⟩
  | sub y z h3 _ => cases e; obtain ⟨k, h4, h5⟩ := ih h3; exact ⟨k + 1, by omega, .sub _ z h5⟩
  | del y h3 _ => cases e; obtain ⟨k, h4, h5⟩ := ih h3; exact ⟨k + 1, by omega, .del _ h5⟩
  | ins z _ ih2 => obtain ⟨k, h4, h5⟩ := ih2 e; exact ⟨k + 1, by omega, .ins z h5⟩
 | @sub x y a b m _ ih =>
  intro c n h2
  generalize e : y :: b = bb at h2
  induction h2 with
  | nil => cases e
  | same y h3 _ => cases e; obtain ⟨k, h4, h5⟩ := ih h3; exact ⟨k + 1, by omega, .sub x _ h5⟩
  | sub y z h3 _ => cases e; obtain ⟨k, h4, h5⟩ := ih h3; exact ⟨k + 1, by omega, .sub x z h5⟩
  | del y h3 _ => cases e; obtain ⟨k, h4, h5⟩ := ih h3; exact ⟨k + 1, by omega, .del x h5⟩
  | ins z _ ih2 => obtain ⟨k, h4, h5⟩ := ih2 e; exact ⟨k + 1, by omega, .ins z h5⟩
 | @del x a b m _ ih =>
  intro c n h2
  obtain ⟨k, h4, h5⟩ := ih h2
  exact ⟨k + 1, by omega, .del x h5⟩
 | @ins y a b m _ ih =>
  intro c n h2
  generalize e : y :: b = bb at h2
  induction h2 with
  | nil => cases e
  | same y h3 _ => cases e; obtain ⟨k, h4, h5⟩ := ih h3; exact ⟨k + 1, by omega, .ins _ h5⟩
  | sub y z h3 _ => cases e; obtain ⟨k, h4, h5⟩ := ih h3; exact ⟨k + 1, by omega, .ins z h5⟩
  | del y h3 _ => cases e; obtain ⟨k, h4, h5⟩ := ih h3; exact ⟨k, by omega, h5⟩
  | ins z _ ih2 => obtain ⟨k, h4, h5⟩ := ih2 e; exact ⟨k + 1, by omega, .ins z h5⟩
theorem few_cons_same (x : ByteArray) (a b : List ByteArray) : few (x :: a) (x :: b) = few a b := by rw [few, if_pos rfl]
theorem few_cons_other {x y : ByteArray} (h : x ≠ y) (a b : List ByteArray) : few (x :: a) (y :: b) = 1 + min (few a b) (min (few a (y :: b)) (few (x :: a) b)) := by rw [few, if_neg h]
theorem few_nil (b : List ByteArray) : few [] b = b.length := by rw [few]
theorem few_way : ∀ (n : Nat) (a b : List ByteArray), a.length + b.length ≤ n → Al a b (few a b)
 | _, [], b, _ => by rw [few_nil]; exact Al.puts b
 | _, x :: a, [], _ => by rw [few_nil_right]; exact Al.strikes _
 | 0, x :: a, y :: b, h => by simp at h
 | n + 1, x :: a, y :: b, h => by
  simp only [List.length_cons] at h
  by_cases e : x = y
  ·subst e
   rw [few_cons_same]
   exact .same x (few_way n a b (by omega))
  ·rw [few_cons_other e]
   have h1 := few_way n a b (by omega)
   have h2 := few_way n a (y :: b) (by simp; omega)
   have h3 := few_way n (x :: a) b (by simp; omega)
   rcases Nat.le_total (few a b) (min (few a (y :: b)) (few (x :: a) b)) with q | q
   ·rw [Nat.min_eq_left q, Nat.add_comm]; exact .sub x y h1
   ·rw [Nat.min_eq_right q]
    rcases Nat.le_total (few a (y :: b)) (few (x :: a) b) with q | q
    ·rw [Nat.min_eq_left q, Nat.add_comm]; exact .del x h2
    ·rw [Nat.min_eq_right q, Nat.add_comm]; exact .ins y h3
theorem few_al (a b : List ByteArray) : Al a b (few a b) := few_way _ a b (Nat.le_refl _)
theorem few_step : ∀ (n : Nat) (a b : List ByteArray), a.length + b.length ≤ n → (∀ x, few (x :: a) b ≤ few a b + 1 ∧ few a b ≤ few (x :: a) b + 1) ∧ (∀ y, few a (y :: b) ≤ few a b + 1 ∧ few a b ≤ few a (y :: b) + 1)
 | n, [], b, h => by
  constructor
  ·intro x
   cases b with
   | nil => simp [few]
   | cons y b =>
    by_cases e : x = y
    ·subst e; rw [few_cons_same, few_nil, few_nil]; simp; omega
    ·rw [few_cons_other e, few_nil, few_nil]
     cases n with
     | zero => simp at h
     | succ n =>
      have := ((few_step n [] b (by simp at h ⊢; omega)).1 x)
      rw [few_nil] at this
      simp only [List.length_cons]
      omega
  ·intro y
   rw [few_nil, few_nil]; simp; omega
 | n, x :: a, [], h => by
  constructor
  ·intro z
   rw [few_nil_right, few_nil_right]; simp
  ·intro y
   by_cases e : x = y
   ·subst e; rw [few_cons_same, few_nil_right, few_nil_right]; simp; omega
   ·rw [few_cons_other e, few_nil_right, few_nil_right]
    cases n with
    | zero => simp at h
    | succ n =>
     have := ((few_step n a [] (by simp at h ⊢; omega)).2 y)
     rw [few_nil_right] at this
     simp only [List.length_cons]
     omega
 | 0, x :: a, y :: b, h => by simp at h
 | n + 1, x :: a, y :: b, h => by
  simp only [List.length_cons] at h
  have i1 := few_step n a b (by omega)
  have i2 := few_step n a (y :: b) (by simp; omega)
  have i3 := few_step n (x :: a) b (by simp; omega)
  constructor
  ·intro z
   have j1 := i2.1 x
   have j2 := i1.2 y
   have j3 := i1.1 x
   have j4 := i3.1 z
   by_cases e : z = y
   ·subst e
    rw [few_cons_same]
    have j5 := i3.2 z
    omega
   ·rw [few_cons_other e]
    have j5 := i3.2 y
    omega
  ·intro z
   have j1 := i3.2 y
   have j2 := i1.1 x
   have j3 := i1.2 y
   have j4 := i2.2 z
   by_cases e : x = z
   ·subst e
    rw [few_cons_same]
    have j5 := i2.1 x
    omega
   ·rw [few_cons_other e]
    have j5 := i2.1 x
    omega
theorem few_min {a b : List ByteArray} {n : Nat} (h : Al a b n) : few a b ≤ n := by
 induction h with
 | nil => simp [few]
 | same x _ ih => rw [few_cons_same]; exact ih
 | @sub x y a b n _ ih =>
  by_cases e : x = y
  ·subst e; rw [few_cons_same]; omega
  ·rw [few_cons_other e]; omega
 | @del x a b n _ ih => have := ((few_step _ a b (Nat.le_refl _)).1 x).1; omega
 | @ins y a b n _ ih => have := ((few_step _ a b (Nat.le_refl _)).2 y).1; omega
theorem few_flip (a b : List ByteArray) : few a b = few b a := Nat.le_antisymm (few_min (few_al b a).flip) (few_min (few_al a b).flip)
theorem few_tri (a b c : List ByteArray) : few a c ≤ few a b + few b c := by
 obtain ⟨k, h1, h2⟩ := (few_al a b).trans (few_al b c)
 have := few_min h2
 omega
theorem few_zero {a b : List ByteArray} : few a b = 0 ↔ a = b := by
 constructor
 ·intro h; have := few_al a b; rw [h] at this; exact this.zero
 ·rintro rfl; have := few_min (Al.refl a); omega
/-- there are as many readings as the fewest -/
theorem edits_few (a b : List ByteArray) (ch ln : Int) : ∀ (n i k : Nat), i ≤ a.length → k ≤ b.length → (a.length - i) + (b.length - k) ≤ n → (edits a b ch ln i k).length = fewAt a b i k
 | n, i, k, hi, hk, h => by
  cases hm : moreW a b i k
  ·rw [edits_done hm]
   simp [moreW] at hm
   rw [fewAt_end (by omega)]
   simp; omega
  ·cases n with
   | zero => simp [moreW] at hm; omega
   | succ n =>
    cases hs : sameW a b i k
    ·obtain ⟨_, _, _, h1, h2, h3⟩ := bestW_fits hs hm hi hk
     have hf := bestW_few hs hm hi hk
     have hb : (bestW a b i k).2 = fewAt a b (i + (bestW a b i k).1.one) (k + (bestW a b i k).1.two) := bestW_snd hs hm hi hk
     rw [edits_way hs hm hi hk, List.length_cons, edits_few a b ch ln n _ _ h1 h2 (by omega), hf, hb]
    ·have hs' := hs
     simp only [sameW, Bool.and_eq_true, decide_eq_true_eq] at hs
     obtain ⟨⟨h1, h2⟩, h3⟩ := hs
     obtain ⟨x, hx⟩ : ∃ x, a[i]? = some x := ⟨_, List.getElem?_eq_getElem h1⟩
     rw [edits_same hs', edits_few a b ch ln n _ _ (by omega) (by omega) (by omega), fewAt_same hx (h3 ▸ hx)]
where
 bestW_snd {a b : List ByteArray} {i k : Nat} (hs : sameW a b i k = false) (hm : moreW a b i k = true) (hi : i ≤ a.length) (hk : k ≤ b.length) : (bestW a b i k).2 = fewAt a b (i + (bestW a b i k).1.one) (k + (bestW a b i k).1.two) := by
  have key : ∀ j, stW a b i k j = (⟨0, 0, 0⟩, a.length + b.length + 1) ∨ (stW a b i k j).2 = fewAt a b (i + (stW a b i k j).1.one) (k + (stW a b i k j).1.two) := by
   intro j
   induction j with
   | zero => exact .inl rfl
   | succ j ih =>
    unfold stW
    cases h : fits a b i k (wayAt j) && lessW a b i k (wayAt j) (stW a b i k j).2
    ·exact ih
    ·exact .inr rfl
  rcases key 3 with h | h
  ·exfalso
   obtain ⟨m, h1, h2, h3⟩ := bestW_fits hs hm hi hk
   have e : (bestW a b i k).1 = ⟨0, 0, 0⟩ := by show (stW a b i k 3).1 = _; rw [h]
   rw [e] at h3
   simp at h3
  ·exact h
theorem edits_n (a b : List ByteArray) (ch ln : Int) : (edits a b ch ln 0 0).length = few a b := by
 rw [edits_few a b ch ln _ 0 0 (Nat.zero_le _) (Nat.zero_le _) (Nat.le_refl _)]
 simp [fewAt]
end Go.AB
namespace Go.AB
open Go Go.RowKit
open Go.PB (Chap TextD PlaceD ReadingD CopyD WayD)
theorem foldR_acc (l : List ReadingD) : ∀ (acc : List ByteArray) (o : ByteArray), endR (l.foldl stepR (acc, o)) = acc ++ endR (l.foldl stepR ([], o)) := by
 induction l with
 | nil =>
  intro acc o
  simp only [List.foldl_nil, endR]
  by_cases h : o = ByteArray.empty <;> simp [h]
 | cons r l ih =>
  intro acc o
  rw [List.foldl_cons, List.foldl_cons]
  by_cases h : r.kind = 2
  ·have e1 : stepR (acc, o) r = (acc ++ [r.word], o) := by simp [stepR, h]
   have e2 : stepR ([], o) r = ([r.word], o) := by simp [stepR, h]
   rw [e1, e2, ih (acc ++ [r.word]) o, ih [r.word] o, List.append_assoc]
  ·have e1 : stepR (acc, o) r = (acc, r.word) := by simp [stepR, h]
   have e2 : stepR ([], o) r = ([], r.word) := by simp [stepR, h]
   rw [e1, e2]
   exact ih acc r.word
section
variable {a b : List ByteArray} {ch ln : Int}
def wdAt (L : List ReadingD) (w : Nat) : List ReadingD := L.filter fun r => decide (r.pl.wd = (w : Int))
def cellW (a : List ByteArray) (L : List ReadingD) (w : Nat) : List ByteArray := endR ((wdAt L w).foldl stepR ([], ownW a w))
def cellsFrom (a : List ByteArray) (L : List ReadingD) (i m : Nat) : List ByteArray := (List.range' i m).flatMap (cellW a L)
theorem cellsFrom_succ (L : List ReadingD) (i m : Nat) : cellsFrom a L i (m + 1) = cellW a L i ++ cellsFrom a L (i + 1) m := by
 unfold cellsFrom
 rw [List.range'_succ, List.flatMap_cons]
theorem wdAt_other {L : List ReadingD} {r : ReadingD} {w : Nat} (h : r.pl.wd ≠ (w : Int)) : wdAt (r :: L) w = wdAt L w := by
 unfold wdAt
 rw [List.filter_cons, decide_eq_false h]; rfl
theorem wdAt_here {L : List ReadingD} {r : ReadingD} {w : Nat} (h : r.pl.wd = (w : Int)) : wdAt (r :: L) w = r :: wdAt L w := by
 unfold wdAt
 rw [List.filter_cons, decide_eq_true h]; rfl
theorem wdAt_none {L : List ReadingD} {w : Nat} (h : ∀ r ∈ L, r.pl.wd ≠ (w : Int)) : wdAt L w = [] := by
 unfold wdAt
 rw [List.filter_eq_nil_iff]
 intro r hr
 simpa using h r hr
theorem cellsFrom_other {L : List ReadingD} {r : ReadingD} {j m : Nat} (h : ∀ w : Nat, j ≤ w → r.pl.wd ≠ (w : Int)) : cellsFrom a (r :: L) j m = cellsFrom a L j m := by
 unfold cellsFrom
 rw [List.flatMap_def, List.flatMap_def]
 congr 1
 apply List.map_congr_left
 intro w hw
 obtain ⟨i, _, rfl⟩ := List.mem_range'.1 hw
 unfold cellW
 rw [wdAt_other (h _ (by omega))]
/-- where the readings of what is left stand, and what they are -/
theorem edits_mem (hb : ∀ s ∈ b, wordB s = true) : ∀ (n i k : Nat), i ≤ a.length → k ≤ b.length → (a.length - i) + (b.length - k) ≤ n → ∀ r ∈ edits a b ch ln i k, r.pl.ch = ch ∧ r.pl.ln = ln ∧ ∃ w : Nat, r.pl.wd = (w : Int) ∧ i ≤ w ∧
  ((r.kind = 1 ∧ w < a.length ∧ r.word = ByteArray.empty) ∨ (r.kind = 2 ∧ w ≤ a.length ∧ wordB r.word = true) ∨ (r.kind = 3 ∧ w < a.length ∧ wordB r.word = true ∧ r.word ≠ ownW a w))
 | n, i, k, hi, hk, h, r, hr => by
  cases hm : moreW a b i k
  ·rw [edits_done hm] at hr; cases hr
  ·cases n with
   | zero => simp [moreW] at hm; omega
   | succ n =>
    cases hs : sameW a b i k
    ·obtain ⟨j, hj, h0, h1, h2, h3⟩ := bestW_fits hs hm hi hk
     rw [edits_way hs hm hi hk] at hr
     rcases List.mem_cons.1 hr with rfl | hr
     ·refine ⟨rfl, rfl, i, rfl, Nat.le_refl _, ?_⟩
      rw [h0] at h1 h2 h3 ⊢
      obtain rfl | rfl | rfl : j = 0 ∨ j = 1 ∨ j = 2 := by omega
      ·simp only [wayAt] at h1 h2 h3 ⊢
       obtain ⟨y, hy⟩ : ∃ y, b[k]? = some y := ⟨_, List.getElem?_eq_getElem (by omega)⟩
       obtain ⟨x, hx⟩ : ∃ x, a[i]? = some x := ⟨_, List.getElem?_eq_getElem (by omega)⟩
       rw [sameW_some hx hy] at hs
       refine .inr (.inr ⟨by first | trivial | rfl, by omega, ?_, ?_⟩)
       ·simp only [wordAt, if_true, hy, Option.getD_some]; exact hb y (List.mem_of_getElem? hy)
       ·simp only [wordAt, if_true, hy, Option.getD_some, ownW, hx]
        exact fun e => of_decide_eq_false hs e.symm
      ·simp only [wayAt] at h1 h2 h3 ⊢
       exact .inl ⟨by first | trivial | rfl, by omega, by simp [wordAt]⟩
      ·simp only [wayAt] at h1 h2 h3 ⊢
       obtain ⟨y, hy⟩ : ∃ y, b[k]? = some y := ⟨_, List.getElem?_eq_getElem (by omega)⟩
       refine .inr (.inl ⟨by first | trivial | rfl, by omega, ?_⟩)
       simp only [wordAt, if_true, hy, Option.getD_some]; exact hb y (List.mem_of_getElem? hy)
     ·obtain ⟨q1, q2, w, q3, q4, q5⟩ := edits_mem hb n _ _ h1 h2 (by omega) r hr
      exact ⟨q1, q2, w, q3, by omega, q5⟩
    ·have hs' := hs
     simp only [sameW, Bool.and_eq_true, decide_eq_true_eq] at hs
     rw [edits_same hs'] at hr
     obtain ⟨q1, q2, w, q3, q4, q5⟩ := edits_mem hb n _ _ (by omega) (by omega) (by omega) r hr
     exact ⟨q1, q2, w, q3, by omega, q5⟩
theorem edits_past (hb : ∀ s ∈ b, wordB s = true) {i k : Nat} (hi : i ≤ a.length) (hk : k ≤ b.length) {w : Nat} (hw : w < i) : ∀ r ∈ edits a b ch ln i k, r.pl.wd ≠ (w : Int) := fun r hr => by
 obtain ⟨_, _, w', h1, h2, _⟩ := edits_mem hb _ i k hi hk (Nat.le_refl _) r hr
 omega
/-- the line that was looked for comes about -/
theorem edits_read (ha : ∀ s ∈ a, s ≠ ByteArray.empty) (hb : ∀ s ∈ b, wordB s = true) : ∀ (n i k : Nat), i ≤ a.length → k ≤ b.length → (a.length - i) + (b.length - k) ≤ n → cellsFrom a (edits a b ch ln i k) i (a.length + 1 - i) = b.drop k
 | n, i, k, hi, hk, h => by
  cases hm : moreW a b i k
  ·rw [edits_done hm]
   simp only [moreW, Bool.or_eq_false_iff, decide_eq_false_iff_not] at hm
   have e1 : a.length + 1 - i = 0 + 1 := by omega
   rw [e1, cellsFrom_succ, List.drop_of_length_le (by omega)]
   simp [cellW, wdAt, cellsFrom, endR, ownW, List.getElem?_eq_none (show a.length ≤ i by omega)]
  ·cases n with
   | zero => simp [moreW] at hm; omega
   | succ n =>
    cases hs : sameW a b i k
    ·obtain ⟨j, hj, h0, h1, h2, h3⟩ := bestW_fits hs hm hi hk
     rw [edits_way hs hm hi hk]
     have ih := edits_read ha hb n _ _ h1 h2 (by omega)
     have hpast := edits_past (ch := ch) (ln := ln) hb h1 h2 (w := i)
     rw [h0] at h1 h2 h3 ih hpast ⊢
     obtain rfl | rfl | rfl : j = 0 ∨ j = 1 ∨ j = 2 := by omega
     ·simp only [wayAt] at h1 h2 h3 ih hpast ⊢
      obtain ⟨y, hy⟩ : ∃ y, b[k]? = some y := ⟨_, List.getElem?_eq_getElem (by omega)⟩
      have e1 : a.length + 1 - i = (a.length + 1 - (i + 1)) + 1 := by omega
      rw [e1, cellsFrom_succ, cellsFrom_other (fun w hw => by dsimp only; omega), ih]
      unfold cellW
      rw [wdAt_here rfl, wdAt_none (hpast (by omega))]
      have hne := wordB_ne (hb y (List.mem_of_getElem? hy))
      simp only [wordAt, if_true, hy, Option.getD_some, List.foldl_cons, List.foldl_nil, stepR, endR]
      rw [← List.getElem_cons_drop (show k < b.length by omega)]
      have hy2 : b[k] = y := (List.getElem?_eq_some_iff.1 hy).2
      simp [hne, hy2]
     ·simp only [wayAt] at h1 h2 h3 ih hpast ⊢
      have e1 : a.length + 1 - i = (a.length + 1 - (i + 1)) + 1 := by omega
      rw [e1, cellsFrom_succ, cellsFrom_other (fun w hw => by dsimp only; omega), ih]
      unfold cellW
      rw [wdAt_here rfl, wdAt_none (hpast (by omega))]
      simp [wordAt, stepR, endR]
     ·simp only [wayAt] at h1 h2 h3 ih hpast ⊢
      obtain ⟨y, hy⟩ : ∃ y, b[k]? = some y := ⟨_, List.getElem?_eq_getElem (by omega)⟩
      have e1 : a.length + 1 - i = (a.length - i) + 1 := by omega
      rw [Nat.add_zero, e1, cellsFrom_succ] at ih
      rw [Nat.add_zero, e1, cellsFrom_succ, cellsFrom_other (fun w hw => by dsimp only; omega)]
      unfold cellW at ih ⊢
      rw [wdAt_here rfl, List.foldl_cons]
      simp only [wordAt, if_true, hy, Option.getD_some, stepR, decide_true, cond_true, List.nil_append]
      rw [foldR_acc, List.append_assoc, ih, ← List.getElem_cons_drop (show k < b.length by omega)]
      have hy2 : b[k] = y := (List.getElem?_eq_some_iff.1 hy).2
      simp [hy2]
    ·have hs' := hs
     simp only [sameW, Bool.and_eq_true, decide_eq_true_eq] at hs
     obtain ⟨⟨q1, q2⟩, q3⟩ := hs
     rw [edits_same hs']
     have ih := edits_read ha hb n (i + 1) (k + 1) (by omega) (by omega) (by omega)
     have e1 : a.length + 1 - i = (a.length + 1 - (i + 1)) + 1 := by omega
     rw [e1, cellsFrom_succ, ih]
     unfold cellW
     rw [wdAt_none (edits_past hb (by omega) (by omega) (by omega))]
     obtain ⟨x, hx⟩ : ∃ x, a[i]? = some x := ⟨_, List.getElem?_eq_getElem q1⟩
     have hne := ha x (List.mem_of_getElem? hx)
     have hy : b[k]? = some x := q3 ▸ hx
     rw [← List.getElem_cons_drop (show k < b.length by omega)]
     have hy2 : b[k] = x := (List.getElem?_eq_some_iff.1 hy).2
     simp [endR, ownW, hx, hne, hy2]
end
/-! ### The readings of a text's lines -/
section
variable {t u : TextD}
theorem lineAt_words (ht : textB t = true) (k n : Nat) : ∀ s ∈ lineAt t k n, wordB s = true := by
 intro s hs
 unfold lineAt linesOf at hs
 split at hs
 ·rename_i c hc
  cases hl : c.lines[n]? with
  | none => rw [hl] at hs; cases hs
  | some l =>
   rw [hl] at hs
   have h1 := List.all_eq_true.1 (text_lines ht hc).2 l (List.mem_of_getElem? hl)
   unfold lineB at h1
   rw [Bool.and_eq_true, List.all_eq_true] at h1
   exact h1.2 s hs
 ·simp at hs
theorem filter_flatMap {α β : Type} (p : β → Bool) (f : α → List β) : ∀ l : List α, (l.flatMap f).filter p = l.flatMap fun x => (f x).filter p
 | [] => rfl
 | x :: l => by rw [List.flatMap_cons, List.flatMap_cons, List.filter_append, filter_flatMap p f l]
theorem flatMap_one {β : Type} (f : Nat → List β) (k : Nat) : ∀ m : Nat, k < m → (∀ j, j < m → j ≠ k → f j = []) → (List.range m).flatMap f = f k
 | 0, h, _ => by omega
 | m + 1, h, hn => by
  rw [List.range_succ, List.flatMap_append, List.flatMap_singleton]
  by_cases e : k = m
  ·subst e
   have : (List.range k).flatMap f = [] := by
    rw [List.flatMap_eq_nil_iff]
    intro j hj
    have hj' : j < k := by simpa using hj
    exact hn j (by omega) (by omega)
   rw [this]; rfl
  ·rw [flatMap_one f k m (by omega) fun j hj => hn j (by omega), hn m (by omega) (fun h => e h.symm), List.append_nil]
/-- the readings of one line are those that were found for it -/
theorem foundE_line (ht : textB t = true) (hu : textB u = true) {k n : Nat} (hk : k < t.length) (hn : n < (linesOf t k).length) (p : ReadingD → Bool) (hp : ∀ r, p r = true → r.pl.ch = (k : Int) ∧ r.pl.ln = (n : Int)) :
  (foundE t u).filter p = (edits (lineAt t k n) (lineAt u k n) k n 0 0).filter p := by
 have key : ∀ (k' n' : Nat), (k' ≠ k ∨ n' ≠ n) → (edits (lineAt t k' n') (lineAt u k' n') k' n' 0 0).filter p = [] := fun k' n' hne => by
  rw [List.filter_eq_nil_iff]
  intro r hr hpr
  obtain ⟨h1, h2, _⟩ := edits_mem (lineAt_words hu k' n') _ 0 0 (Nat.zero_le _) (Nat.zero_le _) (Nat.le_refl _) r hr
  obtain ⟨h3, h4⟩ := hp r hpr
  omega
 unfold foundE allTo
 rw [filter_flatMap, flatMap_one _ k _ hk fun j _ hne => ?_]
 ·unfold chapTo
  rw [filter_flatMap, flatMap_one _ n _ hn fun j _ hne => key k j (.inr hne)]
 ·unfold chapTo
  rw [filter_flatMap, List.flatMap_eq_nil_iff]
  intro n' _
  exact key j n' (.inl hne)
theorem readL_cells (L rs : List ReadingD) (k n : Int) (l : List ByteArray) (h : ∀ w : Nat, readsAt rs ⟨k, n, w⟩ = wdAt L w) : readL rs k n l = cellsFrom l L 0 (l.length + 1) := by
 unfold readL lineR cellsFrom
 rw [List.range_eq_range', List.flatMap_def, List.flatMap_def]
 congr 1
 apply List.map_congr_left
 intro w _
 unfold cellR cellW
 rw [h w]
theorem foundE_readL (ht : textB t = true) (hu : textB u = true) {k n : Nat} (hk : k < t.length) (hn : n < (linesOf t k).length) : readL (foundE t u) (k : Int) (n : Int) (lineAt t k n) = lineAt u k n := by
 rw [readL_cells (edits (lineAt t k n) (lineAt u k n) k n 0 0) (foundE t u) _ _ _ fun w => ?_]
 ·have := edits_read (ch := k) (ln := n) (fun s hs => wordB_ne (lineAt_words ht k n s hs)) (lineAt_words hu k n) _ 0 0 (Nat.zero_le _) (Nat.zero_le _) (Nat.le_refl _)
  simpa using this
 ·unfold readsAt
  rw [foundE_line ht hu hk hn _ fun r hr => ?_]
  ·unfold wdAt
   apply List.filter_congr
   intro r hr
   obtain ⟨h1, h2, _⟩ := edits_mem (lineAt_words hu k n) _ 0 0 (Nat.zero_le _) (Nat.zero_le _) (Nat.le_refl _) r hr
   obtain ⟨⟨c, l, w'⟩, kd, s⟩ := r
   dsimp only at h1 h2
   subst h1; subst h2
   simp
  ·have e := of_decide_eq_true hr
   exact ⟨by rw [e], by rw [e]⟩
/-- the copy that is found reads to the text that was looked for -/
theorem foundE_read (ht : textB t = true) (hu : textB u = true) (ha : alikeB t u = true) : readT t (foundE t u) = u := by
 have hl := alike_len ha
 apply List.ext_getElem?
 intro k
 rw [readT_get]
 by_cases hk : k < t.length
 ·obtain ⟨c, hc⟩ : ∃ c, t[k]? = some c := ⟨_, List.getElem?_eq_getElem hk⟩
  obtain ⟨d, hd⟩ : ∃ d, u[k]? = some d := ⟨_, List.getElem?_eq_getElem (by omega)⟩
  rw [hc, hd, Option.map_some]
  congr 1
  have hll := alike_lines ha hc hd
  have hid := alike_id ha hc hd
  unfold readC
  cases d with
  | mk did dl =>
   dsimp only at hll hid ⊢
   congr 1
   apply List.ext_getElem?
   intro n
   rw [List.getElem?_mapIdx]
   by_cases hn : n < c.lines.length
   ·obtain ⟨l, hl1⟩ : ∃ l, c.lines[n]? = some l := ⟨_, List.getElem?_eq_getElem hn⟩
    obtain ⟨m, hl2⟩ : ∃ l, dl[n]? = some l := ⟨_, List.getElem?_eq_getElem (by omega)⟩
    rw [hl1, hl2, Option.map_some]
    have := foundE_readL ht hu hk (n := n) (by rw [linesOf_some hc]; exact hn)
    rw [lineAt_some hc hl1, lineAt_some hd hl2] at this
    rw [this]
   ·rw [List.getElem?_eq_none (by omega), List.getElem?_eq_none (by omega)]; rfl
 ·rw [List.getElem?_eq_none (by omega), List.getElem?_eq_none (by omega)]; rfl
where
 alike_id {t u : TextD} (h : alikeB t u = true) {k : Nat} {x y : Chap} (hx : t[k]? = some x) (hy : u[k]? = some y) : x.id = y.id := by
  unfold alikeB at h
  rw [Bool.and_eq_true, List.all_eq_true] at h
  have := h.2 (x, y) (List.mem_of_getElem? (i := k) (by rw [List.getElem?_zip_eq_some]; exact ⟨hx, hy⟩))
  simp only [chapAlike, Bool.and_eq_true, decide_eq_true_eq] at this
  exact this.1
end
end Go.AB
namespace Go.AB
open Go Go.RowKit
open Go.PB (Chap TextD PlaceD ReadingD CopyD WayD)
/-! ### Sums -/
def sumN (m : Nat) (f : Nat → Nat) : Nat := ((List.range m).map f).sum
theorem sumN_zero (f : Nat → Nat) : sumN 0 f = 0 := rfl
theorem sumN_succ (m : Nat) (f : Nat → Nat) : sumN (m + 1) f = sumN m f + f m := by
 unfold sumN
 rw [List.range_succ, List.map_append, List.sum_append]; simp
theorem sumN_le {f g : Nat → Nat} : ∀ {m : Nat}, (∀ k, k < m → f k ≤ g k) → sumN m f ≤ sumN m g
 | 0, _ => Nat.le_refl _
 | m + 1, h => by
  rw [sumN_succ, sumN_succ]
  exact Nat.add_le_add (sumN_le fun k hk => h k (by omega)) (h m (by omega))
theorem sumN_congr {f g : Nat → Nat} : ∀ {m : Nat}, (∀ k, k < m → f k = g k) → sumN m f = sumN m g
 | 0, _ => rfl
 | m + 1, h => by rw [sumN_succ, sumN_succ, sumN_congr fun k hk => h k (by omega), h m (by omega)]
theorem sumN_add (f g : Nat → Nat) : ∀ m : Nat, sumN m (fun k => f k + g k) = sumN m f + sumN m g
 | 0 => rfl
 | m + 1 => by rw [sumN_succ, sumN_succ, sumN_succ, sumN_add f g m]; omega
theorem sumN_eq_zero {f : Nat → Nat} : ∀ {m : Nat}, sumN m f = 0 ↔ ∀ k, k < m → f k = 0
 | 0 => by simp [sumN_zero]
 | m + 1 => by
  rw [sumN_succ, Nat.add_eq_zero_iff, sumN_eq_zero]
  constructor
  ·rintro ⟨h1, h2⟩ k hk
   by_cases e : k = m
   ·rw [e]; exact h2
   ·exact h1 k (by omega)
  ·intro h
   exact ⟨fun k hk => h k (by omega), h m (by omega)⟩
theorem sumN_const0 (m : Nat) : sumN m (fun _ => 0) = 0 := sumN_eq_zero.2 fun _ _ => rfl
theorem sumN_one (x : Int) : ∀ m : Nat, sumN m (fun k => if x = (k : Int) then 1 else 0) ≤ (if 0 ≤ x ∧ x < (m : Int) then 1 else 0)
 | 0 => by simp [sumN_zero]
 | m + 1 => by
  rw [sumN_succ]
  have := sumN_one x m
  by_cases e : x = (m : Int)
  ·rw [if_neg (by omega)] at this
   rw [if_pos e, if_pos (by omega)]
   omega
  ·rw [if_neg e]
   by_cases h : 0 ≤ x ∧ x < (m : Int)
   ·rw [if_pos h] at this
    rw [if_pos (by omega)]
    omega
   ·rw [if_neg h] at this
    omega
/-- parts of a row are together no more than it is -/
theorem sumN_parts (f : ReadingD → Int) (m : Nat) : ∀ rs : List ReadingD, sumN m (fun k => (rs.filter fun r => decide (f r = (k : Int))).length) ≤ rs.length
 | [] => by simp [sumN_const0]
 | r :: rs => by
  have h1 := sumN_parts f m rs
  have h2 := sumN_one (f r) m
  have h3 : sumN m (fun k => ((r :: rs).filter fun r => decide (f r = (k : Int))).length) = sumN m (fun k => (rs.filter fun r => decide (f r = (k : Int))).length) + sumN m (fun k => if f r = (k : Int) then 1 else 0) := by
   rw [← sumN_add]
   apply sumN_congr
   intro k _
   rw [List.filter_cons]
   by_cases e : f r = (k : Int) <;> simp [e]
  rw [h3, List.length_cons]
  have : (if 0 ≤ f r ∧ f r < (m : Int) then 1 else 0) ≤ 1 := by split <;> omega
  omega
/-! ### A copy's line is a way -/
theorem prog_way {t : TextD} {own : ByteArray} (hne : own ≠ ByteArray.empty) : ∀ {l : List ReadingD}, (∀ r ∈ l, readingB t r = true) → (∀ (k : Nat) (r : ReadingD), l[k]? = some r → ∀ x ∈ l.take k, x.kind = 2) → Al [own] ((progR own l).filter fun s => !decide (s = ByteArray.empty)) l.length
 | [], _, _ => by simp [progR, hne]; exact .same _ .nil
 | r :: l, h, hp => by
  obtain ⟨_, _, hk⟩ := readingB_kind (h r (List.mem_cons_self ..))
  have hl : r.kind ≠ 2 → l = [] := fun hne => by
   cases l with
   | nil => rfl
   | cons y l => exact absurd (hp 1 y rfl r (by simp)) hne
  rcases hk with ⟨k1, _, _, k4⟩ | ⟨k1, _, _, k4⟩ | ⟨k1, _, _, k4, _⟩
  ·have hn := hl (by omega)
   subst hn
   simp [progR, k1]
   exact .del _ .nil
  ·have ih := prog_way hne (t := t) (fun x hx => h x (List.mem_cons_of_mem _ hx)) (fun k x hx y hy => hp (k + 1) x hx y (by rw [List.take_succ_cons]; exact List.mem_cons_of_mem _ hy))
   rw [progR, decide_eq_true k1, cond_true, List.filter_cons, if_pos (by simp [wordB_ne k4])]
   exact .ins _ ih
  ·have hn := hl (by omega)
   subst hn
   simp [progR, k1, wordB_ne k4]
   exact .sub _ _ .nil
section
variable {t : TextD} {rs : List ReadingD}
theorem cell_way (hv : rsB t rs = true) {ch ln : Int} {l : List ByteArray} {w : Nat} {x : ByteArray} (hx : l[w]? = some x) (hne : x ≠ ByteArray.empty) : Al [x] (cellR rs ch ln l w) (readsAt rs ⟨ch, ln, w⟩).length := by
 obtain ⟨h1, h2⟩ := rsB_true.1 hv
 rw [cellR_prog hv]
 have e : ownW l w = x := by unfold ownW; rw [hx]; rfl
 rw [e]
 exact prog_way (t := t) hne (fun r hr => h1 r (List.mem_filter.1 hr).1) fun k r hk => readsAt_puts h2 _ hk
theorem cell_last (hv : rsB t rs = true) {ch ln : Int} {l : List ByteArray} (hw : wordsOf t (ch, ln) = some l) : Al [] (cellR rs ch ln l l.length) (readsAt rs ⟨ch, ln, (l.length : Int)⟩).length := by
 obtain ⟨h1, _⟩ := rsB_true.1 hv
 have hput : ∀ r ∈ readsAt rs ⟨ch, ln, (l.length : Int)⟩, r.kind = 2 ∧ wordB r.word = true := fun r hr => by
  obtain ⟨h3, h4⟩ := List.mem_filter.1 hr
  have hp := of_decide_eq_true h4
  obtain ⟨l', hw', hk⟩ := readingB_kind (h1 r h3)
  rw [show r.pl.ch = ch by rw [hp], show r.pl.ln = ln by rw [hp], hw] at hw'
  cases hw'
  have e3 : r.pl.wd = (l.length : Int) := by rw [hp]
  rcases hk with ⟨_, _, h5, _⟩ | ⟨h5, _, _, h6⟩ | ⟨_, _, h5, _⟩
  ·omega
  ·exact ⟨h5, h6⟩
  ·omega
 rw [cellR_prog hv, progR_puts fun r hr => (hput r hr).1]
 have e : ownW l l.length = ByteArray.empty := by unfold ownW; rw [List.getElem?_eq_none (Nat.le_refl _)]; rfl
 rw [e, List.filter_append]
 have e2 : ((readsAt rs ⟨ch, ln, (l.length : Int)⟩).map (·.word)).filter (fun s => !decide (s = ByteArray.empty)) = (readsAt rs ⟨ch, ln, (l.length : Int)⟩).map (·.word) := by
  rw [List.filter_eq_self]
  intro s hs
  obtain ⟨r, hr, rfl⟩ := List.mem_map.1 hs
  simp [wordB_ne (hput r hr).2]
 rw [e2]
 have := Al.puts ((readsAt rs ⟨ch, ln, (l.length : Int)⟩).map (·.word))
 simpa using this
theorem line_way (hv : rsB t rs = true) {ch ln : Int} {l : List ByteArray} (hl : ∀ s ∈ l, s ≠ ByteArray.empty) : ∀ m : Nat, m ≤ l.length → Al (l.take m) (lineR rs ch ln l m) (sumN m fun w => (readsAt rs ⟨ch, ln, (w : Int)⟩).length)
 | 0, _ => by simp [lineR, sumN_zero]; exact .nil
 | m + 1, h => by
  obtain ⟨x, hx⟩ : ∃ x, l[m]? = some x := ⟨_, List.getElem?_eq_getElem (by omega)⟩
  rw [lineR_succ, sumN_succ, List.take_add_one, hx]
  exact (line_way hv hl m (by omega)).app (cell_way hv hx (hl x (List.mem_of_getElem? hx)))
theorem read_way (hv : rsB t rs = true) {ch ln : Int} {l : List ByteArray} (hl : ∀ s ∈ l, s ≠ ByteArray.empty) (hw : wordsOf t (ch, ln) = some l) : Al l (readL rs ch ln l) (sumN (l.length + 1) fun w => (readsAt rs ⟨ch, ln, (w : Int)⟩).length) := by
 unfold readL
 rw [lineR_succ, sumN_succ]
 have := (line_way (ch := ch) (ln := ln) hv hl l.length (Nat.le_refl _)).app (cell_last hv hw)
 rw [List.take_length, List.append_nil] at this
 exact this
/-! ### How far texts are apart -/
def aparts (t u : TextD) : Nat := sumN t.length fun k => sumN (linesOf t k).length fun n => few (lineAt t k n) (lineAt u k n)
theorem chapTo_n (t u : TextD) (k : Nat) : ∀ m : Nat, (chapTo t u k m).length = sumN m fun n => few (lineAt t k n) (lineAt u k n)
 | 0 => by simp [chapTo, sumN_zero]
 | m + 1 => by rw [chapTo_succ, List.length_append, chapTo_n t u k m, sumN_succ, edits_n]
theorem foundE_n (t u : TextD) : (foundE t u).length = aparts t u := by
 have : ∀ m : Nat, (allTo t u m).length = sumN m fun k => sumN (linesOf t k).length fun n => few (lineAt t k n) (lineAt u k n) := by
  intro m
  induction m with
  | zero => simp [allTo, sumN_zero]
  | succ m ih => rw [allTo_succ, List.length_append, ih, chapTo_n, sumN_succ]
 exact this t.length
/-- no copy that has a text has fewer readings -/
theorem copy_way (ht : textB t = true) (hv : rsB t rs = true) : aparts t (readT t rs) ≤ rs.length := by
 have step : ∀ k, k < t.length → sumN (linesOf t k).length (fun n => few (lineAt t k n) (lineAt (readT t rs) k n)) ≤ (rs.filter fun r => decide (r.pl.ch = (k : Int))).length := fun k hk => by
  obtain ⟨c, hc⟩ : ∃ c, t[k]? = some c := ⟨_, List.getElem?_eq_getElem hk⟩
  refine Nat.le_trans (sumN_le fun n hn => ?_) (sumN_parts (fun r => r.pl.ln) (linesOf t k).length _)
  rw [linesOf_some hc] at hn
  obtain ⟨l, hl⟩ : ∃ l, c.lines[n]? = some l := ⟨_, List.getElem?_eq_getElem hn⟩
  have e1 : lineAt t k n = l := lineAt_some hc hl
  have e2 : lineAt (readT t rs) k n = readL rs (k : Int) (n : Int) l := lineAt_some (readT_at hc) (readC_lines hl)
  rw [e1, e2]
  refine Nat.le_trans (few_min (read_way hv (fun s hs => wordB_ne (lineAt_words ht k n s (e1 ▸ hs))) (wordsOf_get hc hl))) ?_
  refine Nat.le_trans (Nat.le_of_eq (sumN_congr fun w _ => ?_)) (sumN_parts (fun r => r.pl.wd) (l.length + 1) _)
  rw [List.filter_filter, List.filter_filter]
  congr 1
  apply List.filter_congr
  intro r _
  obtain ⟨⟨a1, a2, a3⟩, kd, s⟩ := r
  rw [Bool.eq_iff_iff]
  simp only [decide_eq_true_eq, Bool.and_eq_true, PlaceD.mk.injEq]
  omega
 unfold aparts
 exact Nat.le_trans (sumN_le step) (sumN_parts (fun r => r.pl.ch) t.length rs)
end
section
variable {t u x : TextD}
theorem alike_linesN (h : alikeB t u = true) (k : Nat) : (linesOf t k).length = (linesOf u k).length := by
 have hl := alike_len h
 by_cases hk : k < t.length
 ·obtain ⟨c, hc⟩ : ∃ c, t[k]? = some c := ⟨_, List.getElem?_eq_getElem hk⟩
  obtain ⟨d, hd⟩ : ∃ d, u[k]? = some d := ⟨_, List.getElem?_eq_getElem (by omega)⟩
  rw [linesOf_some hc, linesOf_some hd]
  exact alike_lines h hc hd
 ·have e1 : linesOf t k = [] := by unfold linesOf; rw [List.getElem?_eq_none (by omega)]
  have e2 : linesOf u k = [] := by unfold linesOf; rw [List.getElem?_eq_none (by omega)]
  rw [e1, e2]
theorem aparts_flip (h : alikeB t u = true) : aparts t u = aparts u t := by
 unfold aparts
 rw [alike_len h]
 apply sumN_congr
 intro k _
 rw [alike_linesN h k]
 apply sumN_congr
 intro n _
 exact few_flip _ _
theorem aparts_tri (h : alikeB t x = true) : aparts t u ≤ aparts t x + aparts x u := by
 unfold aparts
 rw [← alike_len h, ← sumN_add]
 apply sumN_le
 intro k _
 rw [← alike_linesN h k, ← sumN_add]
 apply sumN_le
 intro n _
 exact few_tri _ _ _
theorem alike_same (h : alikeB t u = true) (hl : ∀ k n, k < t.length → n < (linesOf t k).length → lineAt t k n = lineAt u k n) : t = u := by
 have hlen := alike_len h
 apply List.ext_getElem?
 intro k
 by_cases hk : k < t.length
 ·obtain ⟨c, hc⟩ : ∃ c, t[k]? = some c := ⟨_, List.getElem?_eq_getElem hk⟩
  obtain ⟨d, hd⟩ : ∃ d, u[k]? = some d := ⟨_, List.getElem?_eq_getElem (by omega)⟩
  rw [hc, hd]
  congr 1
  have h1 := foundE_read.alike_id h hc hd
  have h2 := alike_lines h hc hd
  cases c with
  | mk ci cl =>
  cases d with
  | mk di dl =>
   dsimp only at h1 h2
   subst h1
   congr 1
   apply List.ext_getElem?
   intro n
   by_cases hn : n < cl.length
   ·have h3 := hl k n hk (by rw [linesOf_some hc]; exact hn)
    obtain ⟨a, ha⟩ : ∃ a, cl[n]? = some a := ⟨_, List.getElem?_eq_getElem hn⟩
    obtain ⟨b, hb⟩ : ∃ b, dl[n]? = some b := ⟨_, List.getElem?_eq_getElem (by omega)⟩
    rw [lineAt_some hc ha, lineAt_some hd hb] at h3
    rw [ha, hb, h3]
   ·rw [List.getElem?_eq_none (by omega), List.getElem?_eq_none (by omega)]
 ·rw [List.getElem?_eq_none (by omega), List.getElem?_eq_none (by omega)]
theorem aparts_zero (h : alikeB t u = true) : aparts t u = 0 ↔ t = u := by
 constructor
 ·intro h0
  refine alike_same h fun k n hk hn => ?_
  have h1 := sumN_eq_zero.1 h0 k hk
  exact few_zero.1 (sumN_eq_zero.1 h1 n hn)
 ·rintro rfl
  exact sumN_eq_zero.2 fun k _ => sumN_eq_zero.2 fun n _ => few_zero.2 rfl
end
end Go.AB
