/-
 Charts in plain words: what an edition with the fewest stretches is; chapters that are moved.
-/
import Derived.Test.YtjjklfgpffgnfaaGreatDoorGlPass
namespace Go.AB
open Go Go.RowKit
open Go.AB.Enc (cells)
open Go.PB (Chap TextD PlaceD ReadingD CopyD WayD)
/-- no two of them could be one -/
def gapS (s u : StretchD) : Prop := s.ch < u.ch ∨ s.ch = u.ch ∧ s.tt ≤ u.fr
def joinS (s u : StretchD) : Prop := u.ch = s.ch ∧ u.fr = s.tt ∧ u.au = s.au ∧ u.fi = s.fi + (s.tt - s.fr)
/-- what stretches say of lines, so far -/
structure PlainI (f : L2 → Option L2) (pre : List L2) (out : List StretchD) : Prop where
 has : ∀ p v, p ∈ pre → f p = some v → ∃ s ∈ out, hasB s p = true ∧ toE s p = v
 is : ∀ s ∈ out, ∀ p, hasB s p = true → p ∈ pre ∧ f p = some (toE s p)
 lt : ∀ s ∈ out, s.fr < s.tt
 ord : out.Pairwise gapS
 two : ∀ (k : Nat) s u, out[k]? = some s → out[k + 1]? = some u → ¬ joinS s u
theorem plainI_nil (f : L2 → Option L2) : PlainI f [] [] := ⟨fun p v h => by simp at h, fun s h => by simp at h, fun s h => by simp at h, List.Pairwise.nil, fun k s u h => by simp at h⟩
theorem plainI_none {f : L2 → Option L2} {pre : List L2} {out : List StretchD} {p : L2} (h : PlainI f pre out) (hp : f p = none) : PlainI f (pre ++ [p]) out := by
 refine ⟨fun q v hq hv => ?_, fun s hs q hq => ?_, h.lt, h.ord, h.two⟩
 ·rcases List.mem_append.1 hq with hq | hq
  ·exact h.has q v hq hv
  ·rw [List.mem_singleton] at hq; subst hq; rw [hp] at hv; cases hv
 ·obtain ⟨h1, h2⟩ := h.is s hs q hq
  exact ⟨List.mem_append_left _ h1, h2⟩
theorem new_has {p v : L2} {q : L2} : hasB ⟨p.1, p.2, p.2 + 1, v.1, v.2⟩ q = true ↔ q = p := by
 rw [hasB_true]
 dsimp only
 constructor
 ·rintro ⟨h1, h2, h3⟩; exact Prod.ext h1.symm (by omega)
 ·rintro rfl; exact ⟨rfl, by omega, by omega⟩
theorem new_to {p v : L2} : toE ⟨p.1, p.2, p.2 + 1, v.1, v.2⟩ p = v := by
 unfold toE
 exact Prod.ext rfl (by dsimp only; omega)
/-- the last line of a stretch is behind none of those that come -/
theorem plainI_last {f : L2 → Option L2} {pre : List L2} {out : List StretchD} {p : L2} (h : PlainI f pre out) (hl : ∀ q ∈ pre, ltL q p) {s : StretchD} (hs : s ∈ out) : s.ch < p.1 ∨ s.ch = p.1 ∧ s.tt ≤ p.2 := by
 have h1 := h.lt s hs
 have h2 := hl _ (h.is s hs (s.ch, s.tt - 1) (hasB_true.2 ⟨rfl, by dsimp only; omega, by dsimp only; omega⟩)).1
 unfold ltL at h2
 dsimp only at h2
 omega
theorem two_snoc {l : List StretchD} {x : StretchD} (h : ∀ (k : Nat) s u, l[k]? = some s → l[k + 1]? = some u → ¬ joinS s u) (hx : ∀ s, l[l.length - 1]? = some s → ¬ joinS s x) : ∀ (k : Nat) s u, (l ++ [x])[k]? = some s → (l ++ [x])[k + 1]? = some u → ¬ joinS s u := by
 intro k s u hs hu
 by_cases h1 : k + 1 < l.length
 ·rw [List.getElem?_append_left (by omega)] at hs
  rw [List.getElem?_append_left h1] at hu
  exact h k s u hs hu
 ·rw [List.getElem?_append_right (by omega)] at hu
  have h2 : k + 1 = l.length := by
   have := (List.getElem?_eq_some_iff.1 hu).1
   simp only [List.length_singleton] at this
   omega
  rw [h2, Nat.sub_self] at hu
  cases hu
  rw [List.getElem?_append_left (by omega)] at hs
  exact hx s (by rw [show l.length - 1 = k by omega]; exact hs)
theorem plainI_new {f : L2 → Option L2} {pre : List L2} {out : List StretchD} {p v : L2} (h : PlainI f pre out) (hl : ∀ q ∈ pre, ltL q p) (hv : f p = some v) (ho : ∀ s, out[out.length - 1]? = some s → goesOn s p v = false) : PlainI f (pre ++ [p]) (out ++ [⟨p.1, p.2, p.2 + 1, v.1, v.2⟩]) := by
 refine ⟨fun q w hq hw => ?_, fun s hs q hq => ?_, fun s hs => ?_, ?_, two_snoc h.two fun s hs hj => ?_⟩
 ·rcases List.mem_append.1 hq with hq | hq
  ·obtain ⟨s, h1, h2⟩ := h.has q w hq hw
   exact ⟨s, List.mem_append_left _ h1, h2⟩
  ·rw [List.mem_singleton] at hq
   subst hq
   rw [hv] at hw; cases hw
   exact ⟨_, List.mem_append_right _ (List.mem_singleton.2 rfl), new_has.2 rfl, new_to⟩
 ·rcases List.mem_append.1 hs with hs | hs
  ·obtain ⟨h1, h2⟩ := h.is s hs q hq
   exact ⟨List.mem_append_left _ h1, h2⟩
  ·rw [List.mem_singleton] at hs
   subst hs
   have := new_has.1 hq
   subst this
   exact ⟨List.mem_append_right _ (List.mem_singleton.2 rfl), by rw [new_to]; exact hv⟩
 ·rcases List.mem_append.1 hs with hs | hs
  ·exact h.lt s hs
  ·rw [List.mem_singleton] at hs; subst hs; dsimp only; omega
 ·rw [List.pairwise_append]
  refine ⟨h.ord, List.pairwise_singleton _ _, fun a ha b hb => ?_⟩
  rw [List.mem_singleton] at hb
  subst hb
  exact plainI_last h hl ha
 ·have h1 := ho s hs
  obtain ⟨a1, a2, a3, a4⟩ := hj
  dsimp only at a1 a2 a3 a4
  rw [← Bool.not_eq_true] at h1
  exact h1 (by simp only [goesOn, Bool.and_eq_true, decide_eq_true_eq]; omega)
theorem plainI_on {f : L2 → Option L2} {pre : List L2} {out : List StretchD} {p v : L2} {s : StretchD} (h : PlainI f pre out) (hv : f p = some v) (hs : out[out.length - 1]? = some s) (ho : goesOn s p v = true) : PlainI f (pre ++ [p]) (out.set (out.length - 1) { s with tt := s.tt + 1 }) := by
 simp only [goesOn, Bool.and_eq_true, decide_eq_true_eq] at ho
 obtain ⟨o1, o2, o3, o4⟩ := ho
 rw [last_set hs]
 obtain ⟨l, hlq⟩ : ∃ l, out.take (out.length - 1) = l := ⟨_, rfl⟩
 have he := last_eq hs
 rw [hlq] at he ⊢
 subst he
 have hmem : s ∈ l ++ [s] := List.mem_append_right _ (List.mem_singleton.2 rfl)
 have hlt := h.lt s hmem
 have hb : ∀ q, hasB { s with tt := s.tt + 1 } q = true ↔ hasB s q = true ∨ q = p := fun q => by
  rw [hasB_true, hasB_true]
  dsimp only
  constructor
  ·rintro ⟨a1, a2, a3⟩
   by_cases h4 : q.2 < s.tt
   ·exact .inl ⟨a1, a2, h4⟩
   ·exact .inr (Prod.ext (by omega) (by omega))
  ·rintro (⟨a1, a2, a3⟩ | rfl)
   ·exact ⟨a1, a2, by omega⟩
   ·exact ⟨o1, by omega, by omega⟩
 have hto : ∀ q, toE { s with tt := s.tt + 1 } q = toE s q := fun q => rfl
 have hpv : toE s p = v := Prod.ext o3 (by simp only [toE]; omega)
 refine ⟨fun q w hq hw => ?_, fun u hu q hq => ?_, fun u hu => ?_, ?_, ?_⟩
 ·rcases List.mem_append.1 hq with hq | hq
  ·obtain ⟨u, h1, h2, h3⟩ := h.has q w hq hw
   rcases List.mem_append.1 h1 with h1 | h1
   ·exact ⟨u, List.mem_append_left _ h1, h2, h3⟩
   ·rw [List.mem_singleton] at h1
    subst h1
    exact ⟨_, List.mem_append_right _ (List.mem_singleton.2 rfl), (hb q).2 (.inl h2), h3⟩
  ·rw [List.mem_singleton] at hq
   subst hq
   rw [hv] at hw; cases hw
   exact ⟨_, List.mem_append_right _ (List.mem_singleton.2 rfl), (hb q).2 (.inr rfl), hpv⟩
 ·rcases List.mem_append.1 hu with hu | hu
  ·obtain ⟨h1, h2⟩ := h.is u (List.mem_append_left _ hu) q hq
   exact ⟨List.mem_append_left _ h1, h2⟩
  ·rw [List.mem_singleton] at hu
   subst hu
   rcases (hb q).1 hq with h1 | rfl
   ·obtain ⟨h2, h3⟩ := h.is s hmem q h1
    exact ⟨List.mem_append_left _ h2, h3⟩
   ·exact ⟨List.mem_append_right _ (List.mem_singleton.2 rfl), by rw [hto, hpv]; exact hv⟩
 ·rcases List.mem_append.1 hu with hu | hu
  ·exact h.lt u (List.mem_append_left _ hu)
  ·rw [List.mem_singleton] at hu; subst hu; dsimp only; omega
 ·have h1 := h.ord
  rw [List.pairwise_append] at h1 ⊢
  refine ⟨h1.1, List.pairwise_singleton _ _, fun a ha b hb => ?_⟩
  rw [List.mem_singleton] at hb
  subst hb
  exact h1.2.2 a ha s (List.mem_singleton.2 rfl)
 ·have h1 := h.two
  refine two_snoc (fun k a b ha hb => h1 k a b ?_ ?_) fun a ha hj => ?_
  ·rw [List.getElem?_append_left (List.getElem?_eq_some_iff.1 ha).1]; exact ha
  ·rw [List.getElem?_append_left (List.getElem?_eq_some_iff.1 hb).1]; exact hb
  ·have h2 := (List.getElem?_eq_some_iff.1 ha).1
   refine h1 (l.length - 1) a s ?_ ?_ hj
   ·rw [List.getElem?_append_left h2]; exact ha
   ·rw [show l.length - 1 + 1 = l.length by omega, List.getElem?_append_right (Nat.le_refl _), Nat.sub_self]; rfl
theorem plainI_step {f : L2 → Option L2} {pre : List L2} {out : List StretchD} {p : L2} (h : PlainI f pre out) (hl : ∀ q ∈ pre, ltL q p) : PlainI f (pre ++ [p]) (mergeO f out p) := by
 unfold mergeO
 cases hv : f p with
 | none => exact plainI_none h hv
 | some v =>
  dsimp only
  unfold mergeS
  cases hs : out[out.length - 1]? with
  | none => exact plainI_new h hl hv fun s hs' => by rw [hs] at hs'; cases hs'
  | some s =>
   dsimp only
   cases ho : goesOn s p v with
   | false => exact plainI_new h hl hv fun s' hs' => by rw [hs] at hs'; cases hs'; exact ho
   | true => exact plainI_on h hv hs ho
theorem plainS_I (f : L2 → Option L2) (t : TextD) : PlainI f (linesT t) (plainS f (linesT t)) := by
 suffices h : ∀ k, k ≤ (linesT t).length → PlainI f ((linesT t).take k) (plainS f ((linesT t).take k)) by
  have := h _ (Nat.le_refl _)
  rwa [List.take_length] at this
 intro k
 induction k with
 | zero => intro _; exact plainI_nil f
 | succ k ih =>
  intro hk
  have hx : (linesT t)[k]? = some (linesT t)[k] := List.getElem?_eq_getElem (by omega)
  rw [List.take_add_one, hx, Option.toList_some, plainS_snoc]
  refine plainI_step (ih (by omega)) fun q hq => ?_
  obtain ⟨j, hj⟩ := List.getElem?_of_mem hq
  rw [List.getElem?_take] at hj
  split at hj
  ·rename_i hjk
   obtain ⟨j1, j2⟩ := List.getElem?_eq_some_iff.1 hj
   have := List.pairwise_iff_getElem.1 (linesT_sorted t) j k j1 (by omega) hjk
   rwa [j2] at this
  ·cases hj
/-- a map of lines that can be an edition's -/
structure MapOkF (t : TextD) (f : L2 → Option L2) : Prop where
 dom : ∀ p v, f p = some v → p ∈ linesT t
 inj : ∀ p q v, f p = some v → f q = some v → p = q
 bd : ∀ p v, f p = some v → (1 ≤ v.1 ∧ v.1 ≤ 999) ∧ 1 ≤ v.2 ∧ v.2 ≤ 999
theorem plain_asOf {t : TextD} {f : L2 → Option L2} (h : MapOkF t f) : asOf (plainS f (linesT t)) = f := by
 have hI := plainS_I f t
 funext p
 cases ha : asOf (plainS f (linesT t)) p with
 | some v =>
  unfold asOf at ha
  cases hf : (plainS f (linesT t)).find? fun s => hasB s p with
  | none => rw [hf] at ha; cases ha
  | some s =>
   rw [hf, Option.map_some] at ha
   cases ha
   have hb : hasB s p = true := List.find?_some (p := fun s => hasB s p) hf
   exact (hI.is s (List.mem_of_find?_eq_some hf) p hb).2.symm
 | none =>
  cases hf : f p with
  | none => rfl
  | some v =>
   obtain ⟨s, h1, h2, _⟩ := hI.has p v (h.dom p v hf) hf
   unfold asOf at ha
   rw [Option.map_eq_none_iff, List.find?_eq_none] at ha
   exact absurd h2 (ha s h1)
theorem line_bd {t : TextD} {p : L2} (h : p ∈ linesT t) : (0 ≤ p.1 ∧ p.1 ≤ (t.length : Int) - 1) ∧ 0 ≤ p.2 ∧ p.2 ≤ (nlines t p.1 : Int) - 1 := by
 obtain ⟨l, hl⟩ := mem_lines.1 h
 have h1 : (wordsOf t p).isSome = true := by rw [hl]; rfl
 rw [wordsOf_isSome, Bool.and_eq_true, inB_true, inB_true] at h1
 exact h1
theorem plain_sound {t : TextD} {f : L2 → Option L2} (ht : textB t = true) (h : MapOkF t f) (hl : (plainS f (linesT t)).length ≤ 12) : Sound t (plainS f (linesT t)) := by
 have hI := plainS_I f t
 have hin : ∀ s ∈ plainS f (linesT t), ∀ p, hasB s p = true → p ∈ linesT t ∧ f p = some (toE s p) := hI.is
 refine ⟨ht, hl, fun s hs => ?_, firstC_eq (o := none) fun a b ⟨hab, x, y, hx, hy, hc⟩ => ?_⟩
 ·have h1 := hI.lt s hs
  obtain ⟨a1, a2⟩ := hin s hs (s.ch, s.fr) (hasB_true.2 ⟨rfl, Int.le_refl _, h1⟩)
  obtain ⟨b1, b2⟩ := hin s hs (s.ch, s.tt - 1) (hasB_true.2 ⟨rfl, by dsimp only; omega, by dsimp only; omega⟩)
  have c1 := line_bd a1
  have c2 := line_bd b1
  have d1 := h.bd _ _ a2
  have d2 := h.bd _ _ b2
  simp only [toE] at d1 d2
  dsimp only at c1 c2
  simp only [strB, sB1, sB2, sB3, Bool.and_eq_true, inB_true]
  omega
 ·have hx' := List.mem_of_getElem? hx
  have hy' := List.mem_of_getElem? hy
  have hord : gapS x y := by
   obtain ⟨x1, x2⟩ := List.getElem?_eq_some_iff.1 hx
   obtain ⟨y1, y2⟩ := List.getElem?_eq_some_iff.1 hy
   have := List.pairwise_iff_getElem.1 hI.ord a b x1 y1 hab
   rwa [x2, y2] at this
  have lx := hI.lt x hx'
  have ly := hI.lt y hy'
  simp only [clashB, meetB, Bool.or_eq_true, Bool.and_eq_true, decide_eq_true_eq] at hc
  rcases hc with ⟨h1, h2, h3⟩ | ⟨h1, h2, h3⟩
  ·rcases hord with h4 | ⟨_, h4⟩ <;> omega
  ·obtain ⟨n, hn⟩ : ∃ n, n = max x.fi y.fi := ⟨_, rfl⟩
   have hxb : hasB x (x.ch, x.fr + (n - x.fi)) = true := hasB_true.2 ⟨rfl, by dsimp only; omega, by dsimp only; omega⟩
   have hyb : hasB y (y.ch, y.fr + (n - y.fi)) = true := hasB_true.2 ⟨rfl, by dsimp only; omega, by dsimp only; omega⟩
   have ex := (hin x hx' _ hxb).2
   have ey := (hin y hy' _ hyb).2
   have e1 : toE x (x.ch, x.fr + (n - x.fi)) = (x.au, n) := Prod.ext rfl (by simp only [toE]; omega)
   have e2 : toE y (y.ch, y.fr + (n - y.fi)) = (x.au, n) := Prod.ext h1.symm (by simp only [toE]; omega)
   rw [e1] at ex
   rw [e2] at ey
   have := h.inj _ _ _ ex ey
   simp only [Prod.mk.injEq] at this
   rw [hasB_true] at hxb hyb
   dsimp only at hxb hyb
   rcases hord with h4 | ⟨_, h4⟩ <;> omega
theorem mapOk_as {t : TextD} {es : List StretchD} (hS : Sound t es) : MapOkF t (asOf es) := by
 refine ⟨fun p v hv => ?_, fun p q v h1 h2 => as_inj hS h1 h2, fun p v hv => ?_⟩
 ·obtain ⟨l, hl⟩ := asOf_words hS hv
  exact mem_lines.2 ⟨l, hl⟩
 ·have := asOf_pos hS.ok hv
  omega
/-- the number of a chapter's last line -/
theorem last_of {t : TextD} {es : List StretchD} (hS : Sound t es) {c : Int} (hc : 0 < c) : MaxOf (fun k => ∃ p, asOf es p = some (c, k)) (lastC t es c) := by
 have h := maxF_max (gRow c) (rowsT t es)
 have key : ∀ k, (∃ r ∈ rowsT t es, gRow c r = some k) ↔ ∃ p, asOf es p = some (c, k) := fun k => by
  constructor
  ·rintro ⟨r, hr, hg⟩
   obtain ⟨⟨h1, _⟩, h2⟩ := gRow_some.1 hg
   have := row_as hS.ok hr (by omega)
   rw [h1, h2] at this
   exact ⟨_, this⟩
  ·rintro ⟨p, hp⟩
   obtain ⟨r, hr, h1, h2⟩ := asOf_line hS hp
   simp only [Prod.mk.injEq] at h2
   exact ⟨r, hr, gRow_some.2 ⟨⟨h2.1, hc⟩, h2.2⟩⟩
 exact ⟨h.some.imp id (key _).1, fun k hk => h.all k ((key k).2 hk)⟩
theorem moveF_some {f : L2 → Option L2} {c l to mo : Int} {p v : L2} : moveF f c l to mo p = some v ↔ ∃ u, f p = some u ∧ v = moveO c l to mo u := by
 unfold moveF
 cases f p <;> simp [eq_comm]
theorem moveO_yes {c l to mo : Int} {u : L2} (h : u.1 = c ∧ l ≤ u.2) : moveO c l to mo u = (to, u.2 + mo) := by simp [moveO, h.1, h.2]
theorem moveO_no {c l to mo : Int} {u : L2} (h : ¬ (u.1 = c ∧ l ≤ u.2)) : moveO c l to mo u = u := by
 unfold moveO
 rw [show (decide (u.1 = c) && decide (l ≤ u.2)) = false by rw [← Bool.not_eq_true, Bool.and_eq_true, decide_eq_true_eq, decide_eq_true_eq]; exact h]
 rfl
/-- lines that are moved behind all of another chapter -/
theorem mapOk_move {t : TextD} {es : List StretchD} (hS : Sound t es) {c l to mo : Int} (hto : 1 ≤ to ∧ to ≤ 999) (hne : c ≠ to) (hm1 : ∀ k, l ≤ k → lastC t es to < k + mo) (hm2 : ∀ p k, asOf es p = some (c, k) → l ≤ k → 1 ≤ k + mo ∧ k + mo ≤ 999) : MapOkF t (moveF (asOf es) c l to mo) := by
 have h0 := mapOk_as hS
 have hmx := last_of hS (c := to) (by omega)
 refine ⟨fun p v hv => ?_, fun p q v h1 h2 => ?_, fun p v hv => ?_⟩
 ·obtain ⟨u, hu, _⟩ := moveF_some.1 hv
  exact h0.dom p u hu
 ·obtain ⟨u, hu, rfl⟩ := moveF_some.1 h1
  obtain ⟨w, hw, e⟩ := moveF_some.1 h2
  by_cases a : u.1 = c ∧ l ≤ u.2
  ·by_cases b : w.1 = c ∧ l ≤ w.2
   ·rw [moveO_yes a, moveO_yes b] at e
    simp only [Prod.mk.injEq, true_and] at e
    have : u = w := Prod.ext (by omega) (by omega)
    subst this
    exact h0.inj p q u hu hw
   ·rw [moveO_yes a, moveO_no b] at e
    have hw' : asOf es q = some (to, u.2 + mo) := by rw [hw, ← e]
    have := hmx.all _ ⟨q, hw'⟩
    have := hm1 u.2 a.2
    omega
  ·by_cases b : w.1 = c ∧ l ≤ w.2
   ·rw [moveO_no a, moveO_yes b] at e
    have hu' : asOf es p = some (to, w.2 + mo) := by rw [hu, e]
    have := hmx.all _ ⟨p, hu'⟩
    have := hm1 w.2 b.2
    omega
   ·rw [moveO_no a, moveO_no b] at e
    subst e
    exact h0.inj p q u hu hw
 ·obtain ⟨u, hu, rfl⟩ := moveF_some.1 hv
  by_cases a : u.1 = c ∧ l ≤ u.2
  ·rw [moveO_yes a]
   have hu' : asOf es p = some (c, u.2) := by rw [hu, ← a.1]
   have := hm2 p u.2 hu' a.2
   exact ⟨hto, this⟩
  ·rw [moveO_no a]
   exact h0.bd p u hu
end Go.AB
