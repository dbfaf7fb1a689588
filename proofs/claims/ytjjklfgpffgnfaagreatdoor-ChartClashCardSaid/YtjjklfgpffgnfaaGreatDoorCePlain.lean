/-
 Charts in plain words: as which line a line of the base is numbered, and back; the first stretches that clash; the lines of a text; stretches that go on.
-/
import Derived.Test.YtjjklfgpffgnfaaGreatDoorCdData
namespace Go.AB
open Go Go.RowKit
open Go.AB.Enc (cells)
open Go.PB (bv ai PlaceD cy c6 cz)
abbrev L2 := Int × Int
/-- a stretch has a line of the base; of the edition -/
def i9 (s : StretchD) (p : L2) : Bool := decide (s.ch = p.1) && (decide (s.fr ≤ p.2) && decide (p.2 < s.tt))
def jd (s : StretchD) (q : L2) : Bool := decide (s.au = q.1) && (decide (s.fi ≤ q.2) && decide (q.2 < s.fi + (s.tt - s.fr)))
def toE (s : StretchD) (p : L2) : L2 := (s.au, s.fi + (p.2 - s.fr))
def toB (s : StretchD) (q : L2) : L2 := (s.ch, s.fr + (q.2 - s.fi))
/-- as which line a line of the base is numbered: by the first stretch that has it; and back -/
def ax (ss : List StretchD) (p : L2) : Option L2 := (ss.find? fun s => i9 s p).map fun s => toE s p
def cn (ss : List StretchD) (q : L2) : Option L2 := (ss.find? fun s => jd s q).map fun s => toB s q
/-- the first lines of a stretch -/
def fk (s : StretchD) (i : Nat) : StretchD := { s with tt := s.fr + i }
theorem nj {s : StretchD} {p : L2} : i9 s p = true ↔ s.ch = p.1 ∧ s.fr ≤ p.2 ∧ p.2 < s.tt := by simp [i9]
theorem oz {s : StretchD} {p : L2} : jd s p = true ↔ s.au = p.1 ∧ s.fi ≤ p.2 ∧ p.2 < s.fi + (s.tt - s.fr) := by simp [jd]
theorem uiu {s : StretchD} {i : Nat} {p : L2} : i9 (fk s (i + 1)) p = (i9 (fk s i) p || decide (p = (s.ch, s.fr + i))) := by
 obtain ⟨a, b⟩ := p
 rw [Bool.eq_iff_iff, Bool.or_eq_true, nj, nj, decide_eq_true_eq, Prod.mk.injEq]
 simp only [fk]
 omega
theorem uis {s : StretchD} {i : Nat} {p : L2} : jd (fk s (i + 1)) p = (jd (fk s i) p || decide (p = (s.au, s.fi + i))) := by
 obtain ⟨a, b⟩ := p
 rw [Bool.eq_iff_iff, Bool.or_eq_true, oz, oz, decide_eq_true_eq, Prod.mk.injEq]
 simp only [fk]
 omega
theorem ukb {s : StretchD} {i : Nat} (h : s.tt = s.fr + i) : fk s i = s := by
 obtain ⟨a, b, c, d, e⟩ := s
 simp only [fk] at h ⊢
 simp [h]
theorem p9 {α : Type} (p : α → Bool) (l : List α) (x : α) : (l ++ [x]).find? p = (l.find? p).or (bif p x then some x else none) := by
 rw [List.find?_append]
 congr 1
theorem umd (l : List StretchD) (s : StretchD) : ax (l ++ [fk s 0]) = ax l := by
 funext p
 unfold ax
 have : i9 (fk s 0) p = false := by
  rw [← Bool.not_eq_true, nj]
  simp only [fk]; omega
 rw [p9, this]
 cases l.find? fun s => i9 s p <;> rfl
theorem ul5 (l : List StretchD) (s : StretchD) : cn (l ++ [fk s 0]) = cn l := by
 funext p
 unfold cn
 have : jd (fk s 0) p = false := by
  rw [← Bool.not_eq_true, oz]
  simp only [fk]; omega
 rw [p9, this]
 cases l.find? fun s => jd s p <;> rfl
theorem uda (l : List StretchD) (s : StretchD) (i : Nat) (p : L2) : ax (l ++ [fk s (i + 1)]) p = (ax (l ++ [fk s i]) p).or (bif decide (p = (s.ch, s.fr + i)) then some (s.au, s.fi + i) else none) := by
 unfold ax
 rw [p9, p9, uiu]
 cases h : l.find? fun s => i9 s p with
 | some x => rfl
 | none =>
  cases h1 : i9 (fk s i) p with
  | true =>
   simp only [Option.or_none, Bool.true_or, cond_true, Option.none_or, Option.map_some, Option.some_or]
   rfl
  | false =>
   by_cases h2 : p = (s.ch, s.fr + i)
   ·subst h2
    simp [toE, fk]; omega
   ·simp [h2]
theorem uc1 (l : List StretchD) (s : StretchD) (i : Nat) (p : L2) : cn (l ++ [fk s (i + 1)]) p = (cn (l ++ [fk s i]) p).or (bif decide (p = (s.au, s.fi + i)) then some (s.ch, s.fr + i) else none) := by
 unfold cn
 rw [p9, p9, uis]
 cases h : l.find? fun s => jd s p with
 | some x => rfl
 | none =>
  cases h1 : jd (fk s i) p with
  | true =>
   simp only [Option.or_none, Bool.true_or, cond_true, Option.none_or, Option.map_some, Option.some_or]
   rfl
  | false =>
   by_cases h2 : p = (s.au, s.fi + i)
   ·subst h2
    simp [toB, fk]; omega
   ·simp [h2]
/-- a line as a pair of numbers -/
def oh (x : L2) : C := .agg [.v (.int .i64 x.1), .v (.int .i64 x.2)]
def az (f : L2 → Option L2) : L2 → Option C := fun p => (f p).map oh
theorem capp_none {f : L2 → Option L2} {p : L2} : az f p = none ↔ f p = none := by
 unfold az; cases f p <;> simp
theorem zl {f g : L2 → Option L2} {p0 v : L2} (h : ∀ p, g p = (f p).or (bif decide (p = p0) then some v else none)) (h0 : f p0 = none) : (fun y => if y = p0 then some (oh v) else az f y) = az g := by
 funext p
 unfold az
 rw [h]
 by_cases hp : p = p0
 ·subst hp; simp [h0]
 ·simp [hp]
theorem zk {f g : L2 → Option L2} {p0 v : L2} (h : ∀ p, g p = (f p).or (bif decide (p = p0) then some v else none)) (h0 : f p0 ≠ none) : f = g := by
 funext p
 rw [h]
 by_cases hp : p = p0
 ·subst hp
  cases hf : f p with
  | none => exact absurd hf h0
  | some x => simp
 ·simp [hp]

/-! ### Stretches that clash -/
theorem isClash_take {ss : List StretchD} {k a b : Nat} : jh (ss.take k) a b ↔ jh ss a b ∧ b < k := by
 unfold jh
 constructor
 ·rintro ⟨h, x, y, hx, hy, hc⟩
  rw [List.getElem?_take] at hx hy
  split at hx
  ·split at hy
   ·exact ⟨⟨h, x, y, hx, hy, hc⟩, by omega⟩
   ·cases hy
  ·cases hx
 ·rintro ⟨⟨h, x, y, hx, hy, hc⟩, hb⟩
  exact ⟨h, x, y, by rw [List.getElem?_take, if_pos (by omega)]; exact hx, by rw [List.getElem?_take, if_pos hb]; exact hy, hc⟩
/-- the first one of those that clash so far; as many as there are if none do -/
def ma (n : Nat) : Option (Nat × Nat) → Nat
 | some p => p.1
 | none => n
def uh : Option (Nat × Nat) → Nat
 | some p => p.2
 | none => 0
theorem ubp {ss : List StretchD} {k : Nat} {o : Option (Nat × Nat)} (hk : k < ss.length) (h : lf (ss.take k) o) (hn : ∀ j, j < k → j < ma ss.length o → ¬ jh ss j k) : lf (ss.take (k + 1)) o := by
 cases o with
 | none =>
  intro a b hab
  rw [isClash_take] at hab
  by_cases hb : b < k
  ·exact h a b (isClash_take.2 ⟨hab.1, hb⟩)
  ·have : b = k := by omega
   subst this
   exact hn a hab.1.1 (by simp only [ma]; have := hab.1.1; omega) hab.1
 | some p =>
  refine ⟨isClash_take.2 ⟨(isClash_take.1 h.1).1, by have := (isClash_take.1 h.1).2; omega⟩, fun c d hcd => ?_⟩
  rw [isClash_take] at hcd
  by_cases hd : d < k
  ·exact h.2 c d (isClash_take.2 ⟨hcd.1, hd⟩)
  ·have : d = k := by omega
   subst this
   have h1 := (isClash_take.1 h.1).2
   by_cases hc : c < p.1
   ·exact absurd hcd.1 (hn c hcd.1.1 hc)
   ·omega
theorem ubq {ss : List StretchD} {j k : Nat} {o : Option (Nat × Nat)} (h : lf (ss.take k) o) (hj : j < ma ss.length o) (hc : jh ss j k) (hn : ∀ i, i < j → i < ma ss.length o → ¬ jh ss i k) : lf (ss.take (k + 1)) (some (j, k)) := by
 refine ⟨isClash_take.2 ⟨hc, by simp⟩, fun c d hcd => ?_⟩
 rw [isClash_take] at hcd
 by_cases hd : d < k
 ·cases o with
  | none => exact absurd (isClash_take.2 ⟨hcd.1, hd⟩) (h c d)
  | some p =>
   have := h.2 c d (isClash_take.2 ⟨hcd.1, hd⟩)
   simp only [ma] at hj
   simp only
   omega
 ·have : d = k := by omega
  subst this
  by_cases hlt : c < j
  ·exact absurd hcd.1 (hn c hlt (by omega))
  ·simp only; omega
theorem xf {s : StretchD} (h : SOk s) : i1 s s = true := by
 have := h.lt
 simp [i1, k0]; omega
/-- as the program tells it -/
def mb (a b : StretchD) : Bool := (decide (a.ch = b.ch) && decide (max a.fr b.fr < min a.tt b.tt)) || (decide (a.au = b.au) && decide (max a.fi b.fi < min (a.fi + a.tt - a.fr) (b.fi + b.tt - b.fr)))
theorem uhe {a b : StretchD} (ha : SOk a) (hb : SOk b) : mb a b = i1 a b := by
 have h1 := ha.lt
 have h2 := hb.lt
 have e1 : decide (max a.fr b.fr < min a.tt b.tt) = k0 a.fr (a.tt - a.fr) b.fr (b.tt - b.fr) := by
  rw [Bool.eq_iff_iff, decide_eq_true_eq, k0, Bool.and_eq_true, decide_eq_true_eq, decide_eq_true_eq]
  omega
 have e2 : decide (max a.fi b.fi < min (a.fi + a.tt - a.fr) (b.fi + b.tt - b.fr)) = k0 a.fi (a.tt - a.fr) b.fi (b.tt - b.fr) := by
  rw [Bool.eq_iff_iff, decide_eq_true_eq, k0, Bool.and_eq_true, decide_eq_true_eq, decide_eq_true_eq]
  omega
 rw [mb, i1, e1, e2]
theorem np {ss : List StretchD} {j k : Nat} {a b : StretchD} (hlt : j < k) (ha : ss[j]? = some a) (hb : ss[k]? = some b) : jh ss j k ↔ i1 a b = true := by
 unfold jh
 constructor
 ·rintro ⟨_, x, y, hx, hy, h⟩
  rw [ha] at hx; rw [hb] at hy
  cases hx; cases hy
  exact h
 ·exact fun h => ⟨hlt, a, b, ha, hb, h⟩
theorem ujc (ss : List StretchD) : lf (ss.take 0) none := by
 intro a b h
 rw [isClash_take] at h
 omega
theorem ujf {ss : List StretchD} {o : Option (Nat × Nat)} (h : lf (ss.take ss.length) o) : ef ss = o := by
 rw [List.take_length] at h
 exact rm h

/-! ### The lines of a text -/
def d9 (t : ai) : List L2 := (t.mapIdx fun k c => c.lines.mapIdx fun n _ => ((k : Int), (n : Int))).flatten
/-- a line of the base, with the numbers that it has by some stretches -/
def qt (ss : List StretchD) (p : L2) (w : Int) : nr := ⟨p.1, p.2, ((ax ss p).getD (0, 0)).1, ((ax ss p).getD (0, 0)).2, w⟩
def ja (t : ai) (ss : List StretchD) : List nr := (t.mapIdx fun k c => c.lines.mapIdx fun n l => qt ss (k, n) l.length).flatten
theorem l3 {ss : List StretchD} (h : ∀ s ∈ ss, SOk s) {p v : L2} (hv : ax ss p = some v) : 1 ≤ v.1 ∧ v.1 ≤ 999 ∧ 1 ≤ v.2 ∧ v.2 ≤ 999 := by
 unfold ax at hv
 cases hf : ss.find? fun s => i9 s p with
 | none => rw [hf] at hv; cases hv
 | some s =>
  rw [hf] at hv
  simp only [Option.map_some, Option.some.injEq] at hv
  subst hv
  have hs := h s (List.mem_of_find?_eq_some hf)
  have hp := List.find?_some hf
  rw [nj] at hp
  have h1 := hs.au
  have h2 := hs.fi
  simp only [toE]
  omega
def lm (s : StretchD) (p v : L2) : Bool := decide (s.ch = p.1) && (decide (s.tt = p.2) && (decide (s.au = v.1) && decide (s.fi + (s.tt - s.fr) = v.2)))
def pz (out : List StretchD) (p v : L2) : List StretchD := match out[out.length - 1]? with
 | some s => bif lm s p v then out.set (out.length - 1) { s with tt := s.tt + 1 } else out ++ [⟨p.1, p.2, p.2 + 1, v.1, v.2⟩]
 | none => out ++ [⟨p.1, p.2, p.2 + 1, v.1, v.2⟩]
def ms (f : L2 → Option L2) (out : List StretchD) (p : L2) : List StretchD := match f p with
 | some v => pz out p v
 | none => out
def gd (f : L2 → Option L2) (l : List L2) : List StretchD := l.foldl (ms f) []
theorem ug8 (out : List StretchD) (p v : L2) : (pz out p v).length ≤ out.length + 1 := by
 unfold pz
 split
 ·rename_i s hs
  cases lm s p v <;> simp
 ·simp
theorem zb (f : L2 → Option L2) (l : List L2) : (gd f l).length ≤ l.length := by
 have : ∀ (l : List L2) (out : List StretchD), (l.foldl (ms f) out).length ≤ out.length + l.length := by
  intro l
  induction l with
  | nil => intro out; simp
  | cons p l ih =>
   intro out
   rw [List.foldl_cons]
   have h1 := ih (ms f out p)
   have h2 : (ms f out p).length ≤ out.length + 1 := by
    unfold ms
    split
    ·exact ug8 _ _ _
    ·omega
   rw [List.length_cons]; omega
 simpa [gd] using this l []
theorem s7 {α β γ : Type} (l : List α) (f : Nat → α → β) (g : β → γ) : (l.mapIdx f).map g = l.mapIdx fun i a => g (f i a) := by
 apply List.ext_getElem?
 intro i
 rw [List.getElem?_map, List.getElem?_mapIdx, List.getElem?_mapIdx, Option.map_map]
 rfl
theorem u4 (t : ai) (ss : List StretchD) : (ja t ss).map (fun r => ((r.ch, r.ln) : L2)) = d9 t := by
 unfold ja d9
 rw [List.map_flatten, s7]
 congr 2
 funext k c
 rw [s7]
 rfl
theorem u3 {t : ai} {ss : List StretchD} {r : nr} (h : r ∈ ja t ss) : r.au = ((ax ss (r.ch, r.ln)).getD (0, 0)).1 ∧ r.nu = ((ax ss (r.ch, r.ln)).getD (0, 0)).2 := by
 unfold ja at h
 obtain ⟨l, hl, hr⟩ := List.mem_flatten.1 h
 obtain ⟨k, hk, rfl⟩ := List.mem_mapIdx.1 hl
 obtain ⟨n, hn, rfl⟩ := List.mem_mapIdx.1 hr
 exact ⟨rfl, rfl⟩
/-- the rows of a chapter's lines -/
def rowL (ss : List StretchD) (k : Nat) (ls : List (List ByteArray)) : List nr := ls.mapIdx fun n l => qt ss (k, n) l.length
theorem ufu (ss : List StretchD) {t : ai} {k : Nat} {c : bv} (h : t[k]? = some c) : ja (t.take (k + 1)) ss = ja (t.take k) ss ++ rowL ss k c.lines := by
 unfold ja
 rw [vp h, List.flatten_append]; simp [rowL]
theorem ufy (ss : List StretchD) (k : Nat) (ls : List (List ByteArray)) : (rowL ss k ls).length = ls.length := by simp [rowL]
theorem ufv {t : ai} (ht : ct t = true) (ss : List StretchD) (k : Nat) : (ja (t.take k) ss).length ≤ 10 * k := by
 induction k with
 | zero => simp [ja]
 | succ k ih =>
  cases hk : t[k]? with
  | none =>
   have h1 : t.take (k + 1) = t.take k := by rw [List.take_add_one, hk]; simp
   rw [h1]; omega
  | some c =>
   rw [ufu ss hk, List.length_append, ufy]
   have := ((ml ht).2.2 c (List.mem_of_getElem? hk)).2.1
   omega
theorem ufw {t : ai} (ht : ct t = true) (ss : List StretchD) : (ja t ss).length ≤ 60 := by
 have h1 := ufv ht ss t.length
 rw [List.take_length] at h1
 have := (ml ht).2.1
 omega
/-- rows without numbers; rows that go on -/
def ti (l : List nr) : List PlaceD := (l.filter fun r => decide (r.au = 0)).map fun r => ⟨r.ch, r.ln, 0⟩
structure SBd (s : StretchD) : Prop where
 fr : -100000 ≤ s.fr ∧ s.fr ≤ 100000
 tt : -100001 ≤ s.tt ∧ s.tt ≤ 100001
 fi : -100000 ≤ s.fi ∧ s.fi ≤ 100000
theorem ug9 {out : List StretchD} {p v : L2} (h : ∀ s ∈ out, SBd s) (hp : -100000 ≤ p.2 ∧ p.2 ≤ 100000) (hv : -100000 ≤ v.2 ∧ v.2 ≤ 100000) : ∀ s ∈ pz out p v, SBd s := by
 have hnew : SBd ⟨p.1, p.2, p.2 + 1, v.1, v.2⟩ := ⟨hp, by simp only; omega, hv⟩
 intro s hs
 unfold pz at hs
 split at hs
 ·rename_i x hx
  cases hg : lm x p v with
  | true =>
   rw [hg] at hs
   rcases List.mem_or_eq_of_mem_set hs with hs | rfl
   ·exact h s hs
   ·have hb := h x (List.mem_of_getElem? hx)
    simp only [lm, Bool.and_eq_true, decide_eq_true_eq] at hg
    exact ⟨hb.fr, by have := hb.tt; simp only; omega, hb.fi⟩
  | false =>
   rw [hg] at hs
   rcases List.mem_append.1 hs with hs | hs
   ·exact h s hs
   ·rw [List.mem_singleton] at hs; exact hs ▸ hnew
 ·rcases List.mem_append.1 hs with hs | hs
  ·exact h s hs
  ·rw [List.mem_singleton] at hs; exact hs ▸ hnew
/-- stretches that go on, and how often one did -/
def ke (f : L2 → Option L2) (o : List StretchD × Nat) (p : L2) : List StretchD × Nat := match f p with
 | none => o
 | some v => match o.1[o.1.length - 1]? with
  | some s => bif lm s p v then (o.1.set (o.1.length - 1) { s with tt := s.tt + 1 }, o.2 + 1) else (o.1 ++ [⟨p.1, p.2, p.2 + 1, v.1, v.2⟩], o.2)
  | none => (o.1 ++ [⟨p.1, p.2, p.2 + 1, v.1, v.2⟩], o.2)
def kg (f : L2 → Option L2) (l : List L2) : List StretchD × Nat := l.foldl (ke f) ([], 0)
theorem uga (f : L2 → Option L2) (l : List L2) (p : L2) : kg f (l ++ [p]) = ke f (kg f l) p := by simp [kg]
theorem uev (f : L2 → Option L2) (o : List StretchD × Nat) (p : L2) : (ke f o p).1 = ms f o.1 p := by
 unfold ke ms
 cases f p with
 | none => rfl
 | some v =>
  simp only [pz]
  cases o.1[o.1.length - 1]? with
  | none => rfl
  | some s => simp only; cases lm s p v <;> rfl
theorem zc (f : L2 → Option L2) (l : List L2) : (kg f l).1 = gd f l := by
 have : ∀ (l : List L2) (o : List StretchD × Nat), (l.foldl (ke f) o).1 = l.foldl (ms f) o.1 := by
  intro l
  induction l with
  | nil => intro o; rfl
  | cons p l ih => intro o; rw [List.foldl_cons, List.foldl_cons, ih, uev]
 exact this l ([], 0)
theorem sd {f : L2 → Option L2} {o : List StretchD × Nat} {p : L2} (h : f p = none) : ke f o p = o := by simp [ke, h]
theorem ues {f : L2 → Option L2} {out : List StretchD} {w : Nat} {p v : L2} {s : StretchD} (h : f p = some v) (hs : out[out.length - 1]? = some s) (hg : lm s p v = true) : ke f (out, w) p = (out.set (out.length - 1) { s with tt := s.tt + 1 }, w + 1) := by
 simp [ke, h, hs, hg]
theorem ueu {f : L2 → Option L2} {out : List StretchD} {w : Nat} {p v : L2} {s : StretchD} (h : f p = some v) (hs : out[out.length - 1]? = some s) (hg : lm s p v = false) : ke f (out, w) p = (out ++ [⟨p.1, p.2, p.2 + 1, v.1, v.2⟩], w) := by
 simp [ke, h, hs, hg]
theorem uet {f : L2 → Option L2} {out : List StretchD} {w : Nat} {p v : L2} (h : f p = some v) (h0 : out = []) : ke f (out, w) p = (out ++ [⟨p.1, p.2, p.2 + 1, v.1, v.2⟩], w) := by
 subst h0; simp [ke, h]
theorem uf9 {f : L2 → Option L2} (hf : ∀ p v, f p = some v → -100000 ≤ v.2 ∧ v.2 ≤ 100000) : ∀ {l : List L2}, (∀ p ∈ l, -100000 ≤ p.2 ∧ p.2 ≤ 100000) → ∀ s ∈ gd f l, SBd s := by
 have : ∀ (l : List L2) (out : List StretchD), (∀ p ∈ l, -100000 ≤ p.2 ∧ p.2 ≤ 100000) → (∀ s ∈ out, SBd s) → ∀ s ∈ l.foldl (ms f) out, SBd s := by
  intro l
  induction l with
  | nil => intro out _ h; exact h
  | cons p l ih =>
   intro out hl ho
   rw [List.foldl_cons]
   refine ih _ (fun p hp => hl p (List.mem_cons_of_mem _ hp)) ?_
   unfold ms
   split
   ·rename_i v hv
    exact ug9 ho (hl p (List.mem_cons_self ..)) (hf p v hv)
   ·exact ho
 intro l hl
 exact this l [] hl (by simp)
theorem uar {t : ai} (ht : ct t = true) {p : L2} (hp : p ∈ d9 t) : 0 ≤ p.1 ∧ p.1 ≤ 5 ∧ 0 ≤ p.2 ∧ p.2 ≤ 9 := by
 unfold d9 at hp
 obtain ⟨l, hl, hr⟩ := List.mem_flatten.1 hp
 obtain ⟨k, hk, rfl⟩ := List.mem_mapIdx.1 hl
 obtain ⟨n, hn, rfl⟩ := List.mem_mapIdx.1 hr
 obtain ⟨t1, t2, t3⟩ := ml ht
 have h3 := (t3 _ (List.getElem_mem hk)).2.1
 simp only
 omega
end Go.AB
