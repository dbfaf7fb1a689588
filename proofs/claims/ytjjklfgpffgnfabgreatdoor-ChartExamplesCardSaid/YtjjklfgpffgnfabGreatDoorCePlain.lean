/-
 Charts in plain words: as which line a line of the base is numbered, and back; the first stretches that clash; the lines of a text; stretches that go on.
-/
import Derived.Test.YtjjklfgpffgnfabGreatDoorCdData
namespace Go.AB
open Go Go.RowKit
open Go.AB.Enc (cells)
open Go.PB (Chap TextD PlaceD ReadingD CopyD WayD)
abbrev L2 := Int × Int
/-- a stretch has a line of the base; of the edition -/
def hasB (s : StretchD) (p : L2) : Bool := decide (s.ch = p.1) && (decide (s.fr ≤ p.2) && decide (p.2 < s.tt))
def hasE (s : StretchD) (q : L2) : Bool := decide (s.au = q.1) && (decide (s.fi ≤ q.2) && decide (q.2 < s.fi + (s.tt - s.fr)))
def toE (s : StretchD) (p : L2) : L2 := (s.au, s.fi + (p.2 - s.fr))
def toB (s : StretchD) (q : L2) : L2 := (s.ch, s.fr + (q.2 - s.fi))
/-- as which line a line of the base is numbered: by the first stretch that has it; and back -/
def asOf (ss : List StretchD) (p : L2) : Option L2 := (ss.find? fun s => hasB s p).map fun s => toE s p
def backOf (ss : List StretchD) (q : L2) : Option L2 := (ss.find? fun s => hasE s q).map fun s => toB s q
/-- the first lines of a stretch -/
def cutS (s : StretchD) (i : Nat) : StretchD := { s with tt := s.fr + i }
theorem hasB_true {s : StretchD} {p : L2} : hasB s p = true ↔ s.ch = p.1 ∧ s.fr ≤ p.2 ∧ p.2 < s.tt := by simp [hasB]
theorem hasE_true {s : StretchD} {p : L2} : hasE s p = true ↔ s.au = p.1 ∧ s.fi ≤ p.2 ∧ p.2 < s.fi + (s.tt - s.fr) := by simp [hasE]
theorem hasB_cut {s : StretchD} {i : Nat} {p : L2} : hasB (cutS s (i + 1)) p = (hasB (cutS s i) p || decide (p = (s.ch, s.fr + i))) := by
 obtain ⟨a, b⟩ := p
 rw [Bool.eq_iff_iff, Bool.or_eq_true, hasB_true, hasB_true, decide_eq_true_eq, Prod.mk.injEq]
 simp only [cutS]
 omega
theorem hasE_cut {s : StretchD} {i : Nat} {p : L2} : hasE (cutS s (i + 1)) p = (hasE (cutS s i) p || decide (p = (s.au, s.fi + i))) := by
 obtain ⟨a, b⟩ := p
 rw [Bool.eq_iff_iff, Bool.or_eq_true, hasE_true, hasE_true, decide_eq_true_eq, Prod.mk.injEq]
 simp only [cutS]
 omega
theorem cutS_all {s : StretchD} {i : Nat} (h : s.tt = s.fr + i) : cutS s i = s := by
 obtain ⟨a, b, c, d, e⟩ := s
 simp only [cutS] at h ⊢
 simp [h]
theorem find_snoc {α : Type} (p : α → Bool) (l : List α) (x : α) : (l ++ [x]).find? p = (l.find? p).or (bif p x then some x else none) := by
 rw [List.find?_append]
 congr 1
theorem asOf_cut0 (l : List StretchD) (s : StretchD) : asOf (l ++ [cutS s 0]) = asOf l := by
 funext p
 unfold asOf
 have : hasB (cutS s 0) p = false := by
  rw [← Bool.not_eq_true, hasB_true]
  simp only [cutS]; omega
 rw [find_snoc, this]
 cases l.find? fun s => hasB s p <;> rfl
theorem backOf_cut0 (l : List StretchD) (s : StretchD) : backOf (l ++ [cutS s 0]) = backOf l := by
 funext p
 unfold backOf
 have : hasE (cutS s 0) p = false := by
  rw [← Bool.not_eq_true, hasE_true]
  simp only [cutS]; omega
 rw [find_snoc, this]
 cases l.find? fun s => hasE s p <;> rfl
theorem asOf_cut (l : List StretchD) (s : StretchD) (i : Nat) (p : L2) : asOf (l ++ [cutS s (i + 1)]) p = (asOf (l ++ [cutS s i]) p).or (bif decide (p = (s.ch, s.fr + i)) then some (s.au, s.fi + i) else none) := by
 unfold asOf
 rw [find_snoc, find_snoc, hasB_cut]
 cases h : l.find? fun s => hasB s p with
 | some x => rfl
 | none =>
  cases h1 : hasB (cutS s i) p with
  | true =>
   simp only [Option.or_none, Bool.true_or, cond_true, Option.none_or, Option.map_some, Option.some_or]
   rfl
  | false =>
   by_cases h2 : p = (s.ch, s.fr + i)
   ·subst h2
    simp [toE, cutS]; omega
   ·simp [h2]
theorem backOf_cut (l : List StretchD) (s : StretchD) (i : Nat) (p : L2) : backOf (l ++ [cutS s (i + 1)]) p = (backOf (l ++ [cutS s i]) p).or (bif decide (p = (s.au, s.fi + i)) then some (s.ch, s.fr + i) else none) := by
 unfold backOf
 rw [find_snoc, find_snoc, hasE_cut]
 cases h : l.find? fun s => hasE s p with
 | some x => rfl
 | none =>
  cases h1 : hasE (cutS s i) p with
  | true =>
   simp only [Option.or_none, Bool.true_or, cond_true, Option.none_or, Option.map_some, Option.some_or]
   rfl
  | false =>
   by_cases h2 : p = (s.au, s.fi + i)
   ·subst h2
    simp [toB, cutS]; omega
   ·simp [h2]
/-- a line as a pair of numbers -/
def pairC (x : L2) : C := .agg [.v (.int .i64 x.1), .v (.int .i64 x.2)]
def capp (f : L2 → Option L2) : L2 → Option C := fun p => (f p).map pairC
theorem capp_none {f : L2 → Option L2} {p : L2} : capp f p = none ↔ f p = none := by
 unfold capp; cases f p <;> simp
theorem or_new {f g : L2 → Option L2} {p0 v : L2} (h : ∀ p, g p = (f p).or (bif decide (p = p0) then some v else none)) (h0 : f p0 = none) : (fun y => if y = p0 then some (pairC v) else capp f y) = capp g := by
 funext p
 unfold capp
 rw [h]
 by_cases hp : p = p0
 ·subst hp; simp [h0]
 ·simp [hp]
theorem or_old {f g : L2 → Option L2} {p0 v : L2} (h : ∀ p, g p = (f p).or (bif decide (p = p0) then some v else none)) (h0 : f p0 ≠ none) : f = g := by
 funext p
 rw [h]
 by_cases hp : p = p0
 ·subst hp
  cases hf : f p with
  | none => exact absurd hf h0
  | some x => simp
 ·simp [hp]

/-! ### Stretches that clash -/
theorem isClash_take {ss : List StretchD} {k a b : Nat} : isClash (ss.take k) a b ↔ isClash ss a b ∧ b < k := by
 unfold isClash
 constructor
 ·rintro ⟨h, x, y, hx, hy, hc⟩
  rw [List.getElem?_take] at hx hy
  split at hx
  ·split at hy
   ·exact ⟨⟨h, x, y, hx, hy, hc⟩, by omega⟩
   ·cases hy
  ·cases hx
 ·rintro ⟨⟨h, x, y, hx, hy, hc⟩, hb⟩
  exact ⟨h, x, y, by rw [List.getElem?_take, if_pos (by omega)]; exact hx, by rw [List.getElem?_take, if_pos hb]; exact hy, hc⟩
/-- the first one of those that clash so far; as many as there are if none do -/
def oneOf (n : Nat) : Option (Nat × Nat) → Nat
 | some p => p.1
 | none => n
def twoOf : Option (Nat × Nat) → Nat
 | some p => p.2
 | none => 0
theorem firstC_old {ss : List StretchD} {k : Nat} {o : Option (Nat × Nat)} (hk : k < ss.length) (h : FirstC (ss.take k) o) (hn : ∀ j, j < k → j < oneOf ss.length o → ¬ isClash ss j k) : FirstC (ss.take (k + 1)) o := by
 cases o with
 | none =>
  intro a b hab
  rw [isClash_take] at hab
  by_cases hb : b < k
  ·exact h a b (isClash_take.2 ⟨hab.1, hb⟩)
  ·have : b = k := by omega
   subst this
   exact hn a hab.1.1 (by simp only [oneOf]; have := hab.1.1; omega) hab.1
 | some p =>
  refine ⟨isClash_take.2 ⟨(isClash_take.1 h.1).1, by have := (isClash_take.1 h.1).2; omega⟩, fun c d hcd => ?_⟩
  rw [isClash_take] at hcd
  by_cases hd : d < k
  ·exact h.2 c d (isClash_take.2 ⟨hcd.1, hd⟩)
  ·have : d = k := by omega
   subst this
   have h1 := (isClash_take.1 h.1).2
   by_cases hc : c < p.1
   ·exact absurd hcd.1 (hn c hcd.1.1 hc)
   ·omega
theorem firstC_new {ss : List StretchD} {j k : Nat} {o : Option (Nat × Nat)} (h : FirstC (ss.take k) o) (hj : j < oneOf ss.length o) (hc : isClash ss j k) (hn : ∀ i, i < j → i < oneOf ss.length o → ¬ isClash ss i k) : FirstC (ss.take (k + 1)) (some (j, k)) := by
 refine ⟨isClash_take.2 ⟨hc, by simp⟩, fun c d hcd => ?_⟩
 rw [isClash_take] at hcd
 by_cases hd : d < k
 ·cases o with
  | none => exact absurd (isClash_take.2 ⟨hcd.1, hd⟩) (h c d)
  | some p =>
   have := h.2 c d (isClash_take.2 ⟨hcd.1, hd⟩)
   simp only [oneOf] at hj
   simp only
   omega
 ·have : d = k := by omega
  subst this
  by_cases hlt : c < j
  ·exact absurd hcd.1 (hn c hlt (by omega))
  ·simp only; omega
theorem clash_self {s : StretchD} (h : SOk s) : clashB s s = true := by
 have := h.lt
 simp [clashB, meetB]; omega
/-- as the program tells it -/
def meetsB (a b : StretchD) : Bool := (decide (a.ch = b.ch) && decide (max a.fr b.fr < min a.tt b.tt)) || (decide (a.au = b.au) && decide (max a.fi b.fi < min (a.fi + a.tt - a.fr) (b.fi + b.tt - b.fr)))
theorem meets_clash {a b : StretchD} (ha : SOk a) (hb : SOk b) : meetsB a b = clashB a b := by
 have h1 := ha.lt
 have h2 := hb.lt
 have e1 : decide (max a.fr b.fr < min a.tt b.tt) = meetB a.fr (a.tt - a.fr) b.fr (b.tt - b.fr) := by
  rw [Bool.eq_iff_iff, decide_eq_true_eq, meetB, Bool.and_eq_true, decide_eq_true_eq, decide_eq_true_eq]
  omega
 have e2 : decide (max a.fi b.fi < min (a.fi + a.tt - a.fr) (b.fi + b.tt - b.fr)) = meetB a.fi (a.tt - a.fr) b.fi (b.tt - b.fr) := by
  rw [Bool.eq_iff_iff, decide_eq_true_eq, meetB, Bool.and_eq_true, decide_eq_true_eq, decide_eq_true_eq]
  omega
 rw [meetsB, clashB, e1, e2]
theorem clash_iff {ss : List StretchD} {j k : Nat} {a b : StretchD} (hlt : j < k) (ha : ss[j]? = some a) (hb : ss[k]? = some b) : isClash ss j k ↔ clashB a b = true := by
 unfold isClash
 constructor
 ·rintro ⟨_, x, y, hx, hy, h⟩
  rw [ha] at hx; rw [hb] at hy
  cases hx; cases hy
  exact h
 ·exact fun h => ⟨hlt, a, b, ha, hb, h⟩
theorem firstC_start (ss : List StretchD) : FirstC (ss.take 0) none := by
 intro a b h
 rw [isClash_take] at h
 omega
theorem firstC_end {ss : List StretchD} {o : Option (Nat × Nat)} (h : FirstC (ss.take ss.length) o) : firstC ss = o := by
 rw [List.take_length] at h
 exact firstC_eq h

/-! ### The lines of a text -/
def linesT (t : TextD) : List L2 := (t.mapIdx fun k c => c.lines.mapIdx fun n _ => ((k : Int), (n : Int))).flatten
/-- a line of the base, with the numbers that it has by some stretches -/
def rowOf (ss : List StretchD) (p : L2) (w : Int) : RowD := ⟨p.1, p.2, ((asOf ss p).getD (0, 0)).1, ((asOf ss p).getD (0, 0)).2, w⟩
def rowsT (t : TextD) (ss : List StretchD) : List RowD := (t.mapIdx fun k c => c.lines.mapIdx fun n l => rowOf ss (k, n) l.length).flatten
theorem asOf_pos {ss : List StretchD} (h : ∀ s ∈ ss, SOk s) {p v : L2} (hv : asOf ss p = some v) : 1 ≤ v.1 ∧ v.1 ≤ 999 ∧ 1 ≤ v.2 ∧ v.2 ≤ 999 := by
 unfold asOf at hv
 cases hf : ss.find? fun s => hasB s p with
 | none => rw [hf] at hv; cases hv
 | some s =>
  rw [hf] at hv
  simp only [Option.map_some, Option.some.injEq] at hv
  subst hv
  have hs := h s (List.mem_of_find?_eq_some hf)
  have hp := List.find?_some hf
  rw [hasB_true] at hp
  have h1 := hs.au
  have h2 := hs.fi
  simp only [toE]
  omega
def goesOn (s : StretchD) (p v : L2) : Bool := decide (s.ch = p.1) && (decide (s.tt = p.2) && (decide (s.au = v.1) && decide (s.fi + (s.tt - s.fr) = v.2)))
def mergeS (out : List StretchD) (p v : L2) : List StretchD := match out[out.length - 1]? with
 | some s => bif goesOn s p v then out.set (out.length - 1) { s with tt := s.tt + 1 } else out ++ [⟨p.1, p.2, p.2 + 1, v.1, v.2⟩]
 | none => out ++ [⟨p.1, p.2, p.2 + 1, v.1, v.2⟩]
def mergeO (f : L2 → Option L2) (out : List StretchD) (p : L2) : List StretchD := match f p with
 | some v => mergeS out p v
 | none => out
def plainS (f : L2 → Option L2) (l : List L2) : List StretchD := l.foldl (mergeO f) []
theorem mergeS_len (out : List StretchD) (p v : L2) : (mergeS out p v).length ≤ out.length + 1 := by
 unfold mergeS
 split
 ·rename_i s hs
  cases goesOn s p v <;> simp
 ·simp
theorem plainS_len (f : L2 → Option L2) (l : List L2) : (plainS f l).length ≤ l.length := by
 have : ∀ (l : List L2) (out : List StretchD), (l.foldl (mergeO f) out).length ≤ out.length + l.length := by
  intro l
  induction l with
  | nil => intro out; simp
  | cons p l ih =>
   intro out
   rw [List.foldl_cons]
   have h1 := ih (mergeO f out p)
   have h2 : (mergeO f out p).length ≤ out.length + 1 := by
    unfold mergeO
    split
    ·exact mergeS_len _ _ _
    ·omega
   rw [List.length_cons]; omega
 simpa [plainS] using this l []
theorem map_mapIdx' {α β γ : Type} (l : List α) (f : Nat → α → β) (g : β → γ) : (l.mapIdx f).map g = l.mapIdx fun i a => g (f i a) := by
 apply List.ext_getElem?
 intro i
 rw [List.getElem?_map, List.getElem?_mapIdx, List.getElem?_mapIdx, Option.map_map]
 rfl
theorem rows_lines (t : TextD) (ss : List StretchD) : (rowsT t ss).map (fun r => ((r.ch, r.ln) : L2)) = linesT t := by
 unfold rowsT linesT
 rw [List.map_flatten, map_mapIdx']
 congr 2
 funext k c
 rw [map_mapIdx']
 rfl
theorem rows_spec {t : TextD} {ss : List StretchD} {r : RowD} (h : r ∈ rowsT t ss) : r.au = ((asOf ss (r.ch, r.ln)).getD (0, 0)).1 ∧ r.nu = ((asOf ss (r.ch, r.ln)).getD (0, 0)).2 := by
 unfold rowsT at h
 obtain ⟨l, hl, hr⟩ := List.mem_flatten.1 h
 obtain ⟨k, hk, rfl⟩ := List.mem_mapIdx.1 hl
 obtain ⟨n, hn, rfl⟩ := List.mem_mapIdx.1 hr
 exact ⟨rfl, rfl⟩
/-- the rows of a chapter's lines -/
def rowL (ss : List StretchD) (k : Nat) (ls : List (List ByteArray)) : List RowD := ls.mapIdx fun n l => rowOf ss (k, n) l.length
theorem rowsT_succ (ss : List StretchD) {t : TextD} {k : Nat} {c : Chap} (h : t[k]? = some c) : rowsT (t.take (k + 1)) ss = rowsT (t.take k) ss ++ rowL ss k c.lines := by
 unfold rowsT
 rw [mapIdx_take_succ h, List.flatten_append]; simp [rowL]
theorem rowL_len (ss : List StretchD) (k : Nat) (ls : List (List ByteArray)) : (rowL ss k ls).length = ls.length := by simp [rowL]
theorem rowsT_len {t : TextD} (ht : textB t = true) (ss : List StretchD) (k : Nat) : (rowsT (t.take k) ss).length ≤ 10 * k := by
 induction k with
 | zero => simp [rowsT]
 | succ k ih =>
  cases hk : t[k]? with
  | none =>
   have h1 : t.take (k + 1) = t.take k := by rw [List.take_add_one, hk]; simp
   rw [h1]; omega
  | some c =>
   rw [rowsT_succ ss hk, List.length_append, rowL_len]
   have := ((text_ok ht).2.2 c (List.mem_of_getElem? hk)).2.1
   omega
theorem rowsT_all {t : TextD} (ht : textB t = true) (ss : List StretchD) : (rowsT t ss).length ≤ 60 := by
 have h1 := rowsT_len ht ss t.length
 rw [List.take_length] at h1
 have := (text_ok ht).2.1
 omega
/-- rows without numbers; rows that go on -/
def gapsR (l : List RowD) : List PlaceD := (l.filter fun r => decide (r.au = 0)).map fun r => ⟨r.ch, r.ln, 0⟩
def plainR (l : List RowD) : List StretchD := l.foldl (fun out r => bif decide (r.au = 0) then out else mergeS out (r.ch, r.ln) (r.au, r.nu)) []
structure SBd (s : StretchD) : Prop where
 fr : -100000 ≤ s.fr ∧ s.fr ≤ 100000
 tt : -100001 ≤ s.tt ∧ s.tt ≤ 100001
 fi : -100000 ≤ s.fi ∧ s.fi ≤ 100000
theorem mergeS_bd {out : List StretchD} {p v : L2} (h : ∀ s ∈ out, SBd s) (hp : -100000 ≤ p.2 ∧ p.2 ≤ 100000) (hv : -100000 ≤ v.2 ∧ v.2 ≤ 100000) : ∀ s ∈ mergeS out p v, SBd s := by
 have hnew : SBd ⟨p.1, p.2, p.2 + 1, v.1, v.2⟩ := ⟨hp, by simp only; omega, hv⟩
 intro s hs
 unfold mergeS at hs
 split at hs
 ·rename_i x hx
  cases hg : goesOn x p v with
  | true =>
   rw [hg] at hs
   rcases List.mem_or_eq_of_mem_set hs with hs | rfl
   ·exact h s hs
   ·have hb := h x (List.mem_of_getElem? hx)
    simp only [goesOn, Bool.and_eq_true, decide_eq_true_eq] at hg
    exact ⟨hb.fr, by have := hb.tt; simp only; omega, hb.fi⟩
  | false =>
   rw [hg] at hs
   rcases List.mem_append.1 hs with hs | hs
   ·exact h s hs
   ·rw [List.mem_singleton] at hs; exact hs ▸ hnew
 ·rcases List.mem_append.1 hs with hs | hs
  ·exact h s hs
  ·rw [List.mem_singleton] at hs; exact hs ▸ hnew
/-- stretches that go on, and how often one did -/
def stepP (f : L2 → Option L2) (o : List StretchD × Nat) (p : L2) : List StretchD × Nat := match f p with
 | none => o
 | some v => match o.1[o.1.length - 1]? with
  | some s => bif goesOn s p v then (o.1.set (o.1.length - 1) { s with tt := s.tt + 1 }, o.2 + 1) else (o.1 ++ [⟨p.1, p.2, p.2 + 1, v.1, v.2⟩], o.2)
  | none => (o.1 ++ [⟨p.1, p.2, p.2 + 1, v.1, v.2⟩], o.2)
def plainP (f : L2 → Option L2) (l : List L2) : List StretchD × Nat := l.foldl (stepP f) ([], 0)
theorem plainP_snoc (f : L2 → Option L2) (l : List L2) (p : L2) : plainP f (l ++ [p]) = stepP f (plainP f l) p := by simp [plainP]
theorem stepP_fst (f : L2 → Option L2) (o : List StretchD × Nat) (p : L2) : (stepP f o p).1 = mergeO f o.1 p := by
 unfold stepP mergeO
 cases f p with
 | none => rfl
 | some v =>
  simp only [mergeS]
  cases o.1[o.1.length - 1]? with
  | none => rfl
  | some s => simp only; cases goesOn s p v <;> rfl
theorem plainP_fst (f : L2 → Option L2) (l : List L2) : (plainP f l).1 = plainS f l := by
 have : ∀ (l : List L2) (o : List StretchD × Nat), (l.foldl (stepP f) o).1 = l.foldl (mergeO f) o.1 := by
  intro l
  induction l with
  | nil => intro o; rfl
  | cons p l ih => intro o; rw [List.foldl_cons, List.foldl_cons, ih, stepP_fst]
 exact this l ([], 0)
theorem stepP_none {f : L2 → Option L2} {o : List StretchD × Nat} {p : L2} (h : f p = none) : stepP f o p = o := by simp [stepP, h]
theorem stepP_on {f : L2 → Option L2} {out : List StretchD} {w : Nat} {p v : L2} {s : StretchD} (h : f p = some v) (hs : out[out.length - 1]? = some s) (hg : goesOn s p v = true) : stepP f (out, w) p = (out.set (out.length - 1) { s with tt := s.tt + 1 }, w + 1) := by
 simp [stepP, h, hs, hg]
theorem stepP_new {f : L2 → Option L2} {out : List StretchD} {w : Nat} {p v : L2} {s : StretchD} (h : f p = some v) (hs : out[out.length - 1]? = some s) (hg : goesOn s p v = false) : stepP f (out, w) p = (out ++ [⟨p.1, p.2, p.2 + 1, v.1, v.2⟩], w) := by
 simp [stepP, h, hs, hg]
theorem stepP_nil {f : L2 → Option L2} {out : List StretchD} {w : Nat} {p v : L2} (h : f p = some v) (h0 : out = []) : stepP f (out, w) p = (out ++ [⟨p.1, p.2, p.2 + 1, v.1, v.2⟩], w) := by
 subst h0; simp [stepP, h]
theorem plainS_bd {f : L2 → Option L2} (hf : ∀ p v, f p = some v → -100000 ≤ v.2 ∧ v.2 ≤ 100000) : ∀ {l : List L2}, (∀ p ∈ l, -100000 ≤ p.2 ∧ p.2 ≤ 100000) → ∀ s ∈ plainS f l, SBd s := by
 have : ∀ (l : List L2) (out : List StretchD), (∀ p ∈ l, -100000 ≤ p.2 ∧ p.2 ≤ 100000) → (∀ s ∈ out, SBd s) → ∀ s ∈ l.foldl (mergeO f) out, SBd s := by
  intro l
  induction l with
  | nil => intro out _ h; exact h
  | cons p l ih =>
   intro out hl ho
   rw [List.foldl_cons]
   refine ih _ (fun p hp => hl p (List.mem_cons_of_mem _ hp)) ?_
   unfold mergeO
   split
   ·rename_i v hv
    exact mergeS_bd ho (hl p (List.mem_cons_self ..)) (hf p v hv)
   ·exact ho
 intro l hl
 exact this l [] hl (by simp)
theorem linesT_bd {t : TextD} (ht : textB t = true) {p : L2} (hp : p ∈ linesT t) : 0 ≤ p.1 ∧ p.1 ≤ 5 ∧ 0 ≤ p.2 ∧ p.2 ≤ 9 := by
 unfold linesT at hp
 obtain ⟨l, hl, hr⟩ := List.mem_flatten.1 hp
 obtain ⟨k, hk, rfl⟩ := List.mem_mapIdx.1 hl
 obtain ⟨n, hn, rfl⟩ := List.mem_mapIdx.1 hr
 obtain ⟨t1, t2, t3⟩ := text_ok ht
 have h3 := (t3 _ (List.getElem_mem hk)).2.1
 simp only
 omega
end Go.AB
