/-
  What the walks through the program rest on: values, states, steps, calls (CdData, CePlain).
-/
import Derived.Test.YtjjklfgpffgnfabGreatDoorAdData
import Derived.Test.YtjjklfgpffgnfabGreatDoorEngB
namespace Go.AB
open Go Go.RowKit
open Go.AB.Enc (cells)
open Go.PB (bh af PlaceD ar bp cj)
structure StretchD where
 ch : Int
 fr : Int
 tt : Int
 au : Int
 fi : Int
 deriving DecidableEq
structure aw where
 id : Int
 ss : List StretchD
 deriving DecidableEq
structure n2 where
 ch : Int
 ln : Int
 au : Int
 nu : Int
 ws : Int
 deriving DecidableEq
instance : Enc StretchD := ⟨fun x => [.v (.int .i64 x.ch), .v (.int .i64 x.fr), .v (.int .i64 x.tt), .v (.int .i64 x.au), .v (.int .i64 x.fi)], 5, fun _ => rfl, fun m x c h => by
 simp only [List.mem_cons, List.not_mem_nil, or_false] at h; rcases h with rfl | rfl | rfl | rfl | rfl <;> exact .v, fun x c h => by
 simp only [List.mem_cons, List.not_mem_nil, or_false] at h; rcases h with rfl | rfl | rfl | rfl | rfl <;> rfl⟩
instance : Enc aw := ⟨fun x => [.v (.int .i64 x.id), lst x.ss], 2, fun _ => rfl, fun m x c h => by
 simp only [List.mem_cons, List.not_mem_nil, or_false] at h; rcases h with rfl | rfl; exact .v; exact bd m _, fun x c h => by
 simp only [List.mem_cons, List.not_mem_nil, or_false] at h; rcases h with rfl | rfl <;> rfl⟩

/-- numbers of an edition that is read out of memory -/
structure SFit (s : StretchD) : Prop where
 ch : I64 s.ch
 fr : I64 s.fr
 tt : I64 s.tt
 au : I64 s.au
 fi : I64 s.fi
structure EFit (e : aw) : Prop where
 id : I64 e.id
 len : e.ss.length ≤ 9223372036854775807
 ss : ∀ s ∈ e.ss, SFit s
theorem ug2 {s : StretchD} (h : ∀ c ∈ cells s, C.fit c) : SFit s :=
 ⟨pk (h _ (by simp [cells])), pk (h _ (by simp [cells])), pk (h _ (by simp [cells])), pk (h _ (by simp [cells])), pk (h _ (by simp [cells]))⟩
theorem unp {e : aw} (h : ∀ c ∈ cells e, C.fit c) : EFit e := by
 have h1 := h _ (List.mem_cons_self ..)
 have h2 := h _ (List.mem_cons_of_mem _ (List.mem_cons_self ..))
 obtain ⟨h3, h4⟩ := fit_lst.1 h2
 exact ⟨pk h1, h3, fun s hs => ug2 (h4 s hs)⟩
theorem unq {e : aw} (h : (val e).fit) : EFit e := unp (fit_agg.1 h)
/-! ### What the functions compute -/
/-- so many lines has a chapter -/
def f7 (t : af) (c : Int) : Nat := match t[c.toNat]? with
 | some x => x.lines.length
 | none => 0
def sB1 (t : af) (s : StretchD) : Bool := inB s.ch 0 ((t.length : Int) - 1)
def sB2 (t : af) (s : StretchD) : Bool := inB s.fr 0 ((f7 t s.ch : Int) - 1) && inB s.tt (s.fr + 1) (f7 t s.ch)
def sB3 (s : StretchD) : Bool := inB s.au 1 999 && inB s.fi 1 (999 - (s.tt - s.fr) + 1)
def fu (t : af) (s : StretchD) : Bool := sB1 t s && (sB2 t s && sB3 s)
def iv (t : af) (e : aw) : Bool := inB e.id 0 9999 && (decide (e.ss.length ≤ 12) && e.ss.all (fu t))
/-- the error of a text -/
def fq (t : af) : Int := bif bw t then 0 else 10
/-- .. and an edition -/
def ct (t : af) (e : aw) : Int := bif bw t then (bif iv t e then 0 else 20) else 10
theorem ueu {t : af} {e : aw} (h : ct t e = 0) : bw t = true ∧ iv t e = true := by
 unfold ct at h
 cases h1 : bw t <;> cases h2 : iv t e <;> simp_all
def lu (a m b n : Int) : Bool := decide (a < b + n) && decide (b < a + m)
def k7 (a b : StretchD) : Bool := (decide (a.ch = b.ch) && lu a.fr (a.tt - a.fr) b.fr (b.tt - b.fr)) || (decide (a.au = b.au) && lu a.fi (a.tt - a.fr) b.fi (b.tt - b.fr))
/-- what is so of a valid stretch -/
structure SOk (s : StretchD) : Prop where
 fr : 0 ≤ s.fr
 lt : s.fr < s.tt
 tt : s.tt ≤ 10
 ch : 0 ≤ s.ch ∧ s.ch ≤ 5
 au : 1 ≤ s.au ∧ s.au ≤ 999
 fi : 1 ≤ s.fi ∧ s.fi + (s.tt - s.fr) ≤ 1000
theorem kh {t : af} (h : bw t = true) : 1 ≤ t.length ∧ t.length ≤ 6 ∧ ∀ c ∈ t, 1 ≤ c.lines.length ∧ c.lines.length ≤ 10 ∧ ∀ l ∈ c.lines, 1 ≤ l.length ∧ l.length ≤ 10 := by
 simp only [bw, Bool.and_eq_true, inB_true, List.all_eq_true, jk, j9] at h
 refine ⟨by omega, by omega, fun c hc => ?_⟩
 have := h.1.2 c hc
 refine ⟨by omega, by omega, fun l hl => ?_⟩
 have := this.2 l hl
 omega
theorem ub {t : af} {c : Int} {k : Nat} {x : bh} (hc : c = (k : Int)) (hx : t[k]? = some x) : f7 t c = x.lines.length := by
 subst hc; simp [f7, hx]
theorem ubt {t : af} (h : bw t = true) (c : Int) : f7 t c ≤ 10 := by
 unfold f7
 split
 ·rename_i x hx
  have := (kh h).2.2 x (List.mem_of_getElem? hx)
  omega
 ·omega
theorem uae {t : af} {s : StretchD} (h : bw t = true) (hs : fu t s = true) : SOk s := by
 simp only [fu, sB1, sB2, sB3, Bool.and_eq_true, inB_true] at hs
 have h1 := ubt h s.ch
 have h2 := kh h
 exact ⟨by omega, by omega, by omega, by omega, by omega, by omega⟩
theorem udz {t : af} {e : aw} (h : bw t = true) (he : iv t e = true) : e.ss.length ≤ 12 ∧ ∀ s ∈ e.ss, SOk s := by
 simp only [iv, Bool.and_eq_true, decide_eq_true_eq, List.all_eq_true] at he
 exact ⟨he.2.1, fun s hs => uae h (he.2.2 s hs)⟩
/-- two stretches clash -/
def ju (ss : List StretchD) (a b : Nat) : Prop := a < b ∧ ∃ x y, ss[a]? = some x ∧ ss[b]? = some y ∧ k7 x y = true
/-- the first two that clash -/
def ma (ss : List StretchD) : Option (Nat × Nat) → Prop
 | none => ∀ a b, ¬ ju ss a b
 | some p => ju ss p.1 p.2 ∧ ∀ c d, ju ss c d → p.1 < c ∨ (p.1 = c ∧ p.2 ≤ d)
theorem um8 {ss : List StretchD} {o o' : Option (Nat × Nat)} (h : ma ss o) (h' : ma ss o') : o = o' := by
 cases o with
 | none => cases o' with
  | none => rfl
  | some p => exact absurd h'.1 (h _ _)
 | some p => cases o' with
  | none => exact absurd h.1 (h' _ _)
  | some q =>
   have h1 := h.2 _ _ h'.1
   have h2 := h'.2 _ _ h.1
   congr 1
   exact Prod.ext (by omega) (by omega)
open Classical in
noncomputable def ff (ss : List StretchD) : Option (Nat × Nat) := if h : ∃ o, ma ss o then h.choose else none
theorem udq {ss : List StretchD} {o : Option (Nat × Nat)} (h : ma ss o) : ff ss = o := by
 unfold ff
 rw [dif_pos ⟨o, h⟩]
 exact um8 (Exists.choose_spec (p := ma ss) ⟨o, h⟩) h
noncomputable def clA (ss : List StretchD) : Int := match ff ss with | some p => p.1 | none => 0
noncomputable def clB (ss : List StretchD) : Int := match ff ss with | some p => p.2 | none => 0
/-- .. what clashes, with the error -/
noncomputable def pq (t : af) (e : aw) : Int := bif decide (ct t e = 0) then (bif (ff e.ss).isSome then 0 else 6) else ct t e
noncomputable def pt (t : af) (e : aw) : Int := bif decide (ct t e = 0) then clA e.ss else 0
noncomputable def pr (t : af) (e : aw) : Int := bif decide (ct t e = 0) then clB e.ss else 0
/-- the error of a text and a sound edition -/
noncomputable def cb (t : af) (e : aw) : Int := bif decide (ct t e = 0) then (bif (ff e.ss).isSome then 8 else 0) else ct t e
end Go.AB
namespace Go.AB
open Go Go.RowKit
open Go.AB.Enc (cells)
open Go.PB (bh af PlaceD ar bp cj)
abbrev L2 := Int × Int
/-- a stretch has a line of the base; of the edition -/
def jb (s : StretchD) (p : L2) : Bool := decide (s.ch = p.1) && (decide (s.fr ≤ p.2) && decide (p.2 < s.tt))
def jh (s : StretchD) (q : L2) : Bool := decide (s.au = q.1) && (decide (s.fi ≤ q.2) && decide (q.2 < s.fi + (s.tt - s.fr)))
def toE (s : StretchD) (p : L2) : L2 := (s.au, s.fi + (p.2 - s.fr))
def toB (s : StretchD) (q : L2) : L2 := (s.ch, s.fr + (q.2 - s.fi))
/-- as which line a line of the base is numbered: by the first stretch that has it; and back -/
def av (ss : List StretchD) (p : L2) : Option L2 := (ss.find? fun s => jb s p).map fun s => toE s p
def cn (ss : List StretchD) (q : L2) : Option L2 := (ss.find? fun s => jh s q).map fun s => toB s q
/-- the first lines of a stretch -/
def eu (s : StretchD) (i : Nat) : StretchD := { s with tt := s.fr + i }
theorem ns {s : StretchD} {p : L2} : jb s p = true ↔ s.ch = p.1 ∧ s.fr ≤ p.2 ∧ p.2 < s.tt := by simp [jb]
theorem pm {s : StretchD} {p : L2} : jh s p = true ↔ s.au = p.1 ∧ s.fi ≤ p.2 ∧ p.2 < s.fi + (s.tt - s.fr) := by simp [jh]
theorem umv {s : StretchD} {i : Nat} {p : L2} : jb (eu s (i + 1)) p = (jb (eu s i) p || decide (p = (s.ch, s.fr + i))) := by
 obtain ⟨a, b⟩ := p
 rw [Bool.eq_iff_iff, Bool.or_eq_true, ns, ns, decide_eq_true_eq, Prod.mk.injEq]
 simp only [eu]
 omega
theorem umt {s : StretchD} {i : Nat} {p : L2} : jh (eu s (i + 1)) p = (jh (eu s i) p || decide (p = (s.au, s.fi + i))) := by
 obtain ⟨a, b⟩ := p
 rw [Bool.eq_iff_iff, Bool.or_eq_true, pm, pm, decide_eq_true_eq, Prod.mk.injEq]
 simp only [eu]
 omega
theorem uoc {s : StretchD} {i : Nat} (h : s.tt = s.fr + i) : eu s i = s := by
 obtain ⟨a, b, c, d, e⟩ := s
 simp only [eu] at h ⊢
 simp [h]
theorem q9 {α : Type} (p : α → Bool) (l : List α) (x : α) : (l ++ [x]).find? p = (l.find? p).or (bif p x then some x else none) := by
 rw [List.find?_append]
 congr 1
theorem uqm (l : List StretchD) (s : StretchD) : av (l ++ [eu s 0]) = av l := by
 funext p
 unfold av
 have : jb (eu s 0) p = false := by
  rw [← Bool.not_eq_true, ns]
  simp only [eu]; omega
 rw [q9, this]
 cases l.find? fun s => jb s p <;> rfl
theorem up5 (l : List StretchD) (s : StretchD) : cn (l ++ [eu s 0]) = cn l := by
 funext p
 unfold cn
 have : jh (eu s 0) p = false := by
  rw [← Bool.not_eq_true, pm]
  simp only [eu]; omega
 rw [q9, this]
 cases l.find? fun s => jh s p <;> rfl
theorem ufm (l : List StretchD) (s : StretchD) (i : Nat) (p : L2) : av (l ++ [eu s (i + 1)]) p = (av (l ++ [eu s i]) p).or (bif decide (p = (s.ch, s.fr + i)) then some (s.au, s.fi + i) else none) := by
 unfold av
 rw [q9, q9, umv]
 cases h : l.find? fun s => jb s p with
 | some x => rfl
 | none =>
  cases h1 : jb (eu s i) p with
  | true =>
   simp only [Option.or_none, Bool.true_or, cond_true, Option.none_or, Option.map_some, Option.some_or]
   rfl
  | false =>
   by_cases h2 : p = (s.ch, s.fr + i)
   ·subst h2
    simp [toE, eu]; omega
   ·simp [h2]
theorem uff (l : List StretchD) (s : StretchD) (i : Nat) (p : L2) : cn (l ++ [eu s (i + 1)]) p = (cn (l ++ [eu s i]) p).or (bif decide (p = (s.au, s.fi + i)) then some (s.ch, s.fr + i) else none) := by
 unfold cn
 rw [q9, q9, umt]
 cases h : l.find? fun s => jh s p with
 | some x => rfl
 | none =>
  cases h1 : jh (eu s i) p with
  | true =>
   simp only [Option.or_none, Bool.true_or, cond_true, Option.none_or, Option.map_some, Option.some_or]
   rfl
  | false =>
   by_cases h2 : p = (s.au, s.fi + i)
   ·subst h2
    simp [toB, eu]; omega
   ·simp [h2]
/-- a line as a pair of numbers -/
def o9 (x : L2) : C := .agg [.v (.int .i64 x.1), .v (.int .i64 x.2)]
def a8 (f : L2 → Option L2) : L2 → Option C := fun p => (f p).map o9
theorem capp_none {f : L2 → Option L2} {p : L2} : a8 f p = none ↔ f p = none := by
 unfold a8; cases f p <;> simp
theorem ubj {f g : L2 → Option L2} {p0 v : L2} (h : ∀ p, g p = (f p).or (bif decide (p = p0) then some v else none)) (h0 : f p0 = none) : (fun y => if y = p0 then some (o9 v) else a8 f y) = a8 g := by
 funext p
 unfold a8
 rw [h]
 by_cases hp : p = p0
 ·subst hp; simp [h0]
 ·simp [hp]
theorem ubi {f g : L2 → Option L2} {p0 v : L2} (h : ∀ p, g p = (f p).or (bif decide (p = p0) then some v else none)) (h0 : f p0 ≠ none) : f = g := by
 funext p
 rw [h]
 by_cases hp : p = p0
 ·subst hp
  cases hf : f p with
  | none => exact absurd hf h0
  | some x => simp
 ·simp [hp]

/-! ### Stretches that clash -/
theorem isClash_take {ss : List StretchD} {k a b : Nat} : ju (ss.take k) a b ↔ ju ss a b ∧ b < k := by
 unfold ju
 constructor
 ·rintro ⟨h, x, y, hx, hy, hc⟩
  rw [List.getElem?_take] at hx hy
  split at hx
  ·split at hy
   ·exact ⟨⟨h, x, y, hx, hy, hc⟩, by omega⟩
   ·cases hy
  ·cases hx
 ·rintro ⟨⟨h, x, y, hx, hy, hc⟩, hb⟩
  exact ⟨h, x, y, by rw [List.getElem?_take, if_pos (by omega)]; exact hx, by rw [List.getElem?_take, if_pos hb]; exact hy, hc⟩
/-- the first one of those that clash so far; as many as there are if none do -/
def mc (n : Nat) : Option (Nat × Nat) → Nat
 | some p => p.1
 | none => n
def v7 : Option (Nat × Nat) → Nat
 | some p => p.2
 | none => 0
theorem udn {ss : List StretchD} {k : Nat} {o : Option (Nat × Nat)} (hk : k < ss.length) (h : ma (ss.take k) o) (hn : ∀ j, j < k → j < mc ss.length o → ¬ ju ss j k) : ma (ss.take (k + 1)) o := by
 cases o with
 | none =>
  intro a b hab
  rw [isClash_take] at hab
  by_cases hb : b < k
  ·exact h a b (isClash_take.2 ⟨hab.1, hb⟩)
  ·have : b = k := by omega
   subst this
   exact hn a hab.1.1 (by simp only [mc]; have := hab.1.1; omega) hab.1
 | some p =>
  refine ⟨isClash_take.2 ⟨(isClash_take.1 h.1).1, by have := (isClash_take.1 h.1).2; omega⟩, fun c d hcd => ?_⟩
  rw [isClash_take] at hcd
  by_cases hd : d < k
  ·exact h.2 c d (isClash_take.2 ⟨hcd.1, hd⟩)
  ·have : d = k := by omega
   subst this
   have h1 := (isClash_take.1 h.1).2
   by_cases hc : c < p.1
   ·exact absurd hcd.1 (hn c hcd.1.1 hc)
   ·omega
theorem udp {ss : List StretchD} {j k : Nat} {o : Option (Nat × Nat)} (h : ma (ss.take k) o) (hj : j < mc ss.length o) (hc : ju ss j k) (hn : ∀ i, i < j → i < mc ss.length o → ¬ ju ss i k) : ma (ss.take (k + 1)) (some (j, k)) := by
 refine ⟨isClash_take.2 ⟨hc, by simp⟩, fun c d hcd => ?_⟩
 rw [isClash_take] at hcd
 by_cases hd : d < k
 ·cases o with
  | none => exact absurd (isClash_take.2 ⟨hcd.1, hd⟩) (h c d)
  | some p =>
   have := h.2 c d (isClash_take.2 ⟨hcd.1, hd⟩)
   simp only [mc] at hj
   simp only
   omega
 ·have : d = k := by omega
  subst this
  by_cases hlt : c < j
  ·exact absurd hcd.1 (hn c hlt (by omega))
  ·simp only; omega
theorem y6 {s : StretchD} (h : SOk s) : k7 s s = true := by
 have := h.lt
 simp [k7, lu]; omega
/-- as the program tells it -/
def me (a b : StretchD) : Bool := (decide (a.ch = b.ch) && decide (max a.fr b.fr < min a.tt b.tt)) || (decide (a.au = b.au) && decide (max a.fi b.fi < min (a.fi + a.tt - a.fr) (b.fi + b.tt - b.fr)))
theorem uk1 {a b : StretchD} (ha : SOk a) (hb : SOk b) : me a b = k7 a b := by
 have h1 := ha.lt
 have h2 := hb.lt
 have e1 : decide (max a.fr b.fr < min a.tt b.tt) = lu a.fr (a.tt - a.fr) b.fr (b.tt - b.fr) := by
  rw [Bool.eq_iff_iff, decide_eq_true_eq, lu, Bool.and_eq_true, decide_eq_true_eq, decide_eq_true_eq]
  omega
 have e2 : decide (max a.fi b.fi < min (a.fi + a.tt - a.fr) (b.fi + b.tt - b.fr)) = lu a.fi (a.tt - a.fr) b.fi (b.tt - b.fr) := by
  rw [Bool.eq_iff_iff, decide_eq_true_eq, lu, Bool.and_eq_true, decide_eq_true_eq, decide_eq_true_eq]
  omega
 rw [me, k7, e1, e2]
theorem nz {ss : List StretchD} {j k : Nat} {a b : StretchD} (hlt : j < k) (ha : ss[j]? = some a) (hb : ss[k]? = some b) : ju ss j k ↔ k7 a b = true := by
 unfold ju
 constructor
 ·rintro ⟨_, x, y, hx, hy, h⟩
  rw [ha] at hx; rw [hb] at hy
  cases hx; cases hy
  exact h
 ·exact fun h => ⟨hlt, a, b, ha, hb, h⟩
theorem um9 (ss : List StretchD) : ma (ss.take 0) none := by
 intro a b h
 rw [isClash_take] at h
 omega
theorem unb {ss : List StretchD} {o : Option (Nat × Nat)} (h : ma (ss.take ss.length) o) : ff ss = o := by
 rw [List.take_length] at h
 exact udq h

/-! ### The lines of a text -/
def dn (t : af) : List L2 := (t.mapIdx fun k c => c.lines.mapIdx fun n _ => ((k : Int), (n : Int))).flatten
/-- a line of the base, with the numbers that it has by some stretches -/
def rx (ss : List StretchD) (p : L2) (w : Int) : n2 := ⟨p.1, p.2, ((av ss p).getD (0, 0)).1, ((av ss p).getD (0, 0)).2, w⟩
def je (t : af) (ss : List StretchD) : List n2 := (t.mapIdx fun k c => c.lines.mapIdx fun n l => rx ss (k, n) l.length).flatten
theorem l8 {ss : List StretchD} (h : ∀ s ∈ ss, SOk s) {p v : L2} (hv : av ss p = some v) : 1 ≤ v.1 ∧ v.1 ≤ 999 ∧ 1 ≤ v.2 ∧ v.2 ≤ 999 := by
 unfold av at hv
 cases hf : ss.find? fun s => jb s p with
 | none => rw [hf] at hv; cases hv
 | some s =>
  rw [hf] at hv
  simp only [Option.map_some, Option.some.injEq] at hv
  subst hv
  have hs := h s (List.mem_of_find?_eq_some hf)
  have hp := List.find?_some hf
  rw [ns] at hp
  have h1 := hs.au
  have h2 := hs.fi
  simp only [toE]
  omega
def l4 (s : StretchD) (p v : L2) : Bool := decide (s.ch = p.1) && (decide (s.tt = p.2) && (decide (s.au = v.1) && decide (s.fi + (s.tt - s.fr) = v.2)))
def qm (out : List StretchD) (p v : L2) : List StretchD := match out[out.length - 1]? with
 | some s => bif l4 s p v then out.set (out.length - 1) { s with tt := s.tt + 1 } else out ++ [⟨p.1, p.2, p.2 + 1, v.1, v.2⟩]
 | none => out ++ [⟨p.1, p.2, p.2 + 1, v.1, v.2⟩]
def my (f : L2 → Option L2) (out : List StretchD) (p : L2) : List StretchD := match f p with
 | some v => qm out p v
 | none => out
def fy (f : L2 → Option L2) (l : List L2) : List StretchD := l.foldl (my f) []
theorem ukv (out : List StretchD) (p v : L2) : (qm out p v).length ≤ out.length + 1 := by
 unfold qm
 split
 ·rename_i s hs
  cases l4 s p v <;> simp
 ·simp
theorem ua9 (f : L2 → Option L2) (l : List L2) : (fy f l).length ≤ l.length := by
 have : ∀ (l : List L2) (out : List StretchD), (l.foldl (my f) out).length ≤ out.length + l.length := by
  intro l
  induction l with
  | nil => intro out; simp
  | cons p l ih =>
   intro out
   rw [List.foldl_cons]
   have h1 := ih (my f out p)
   have h2 : (my f out p).length ≤ out.length + 1 := by
    unfold my
    split
    ·exact ukv _ _ _
    ·omega
   rw [List.length_cons]; omega
 simpa [fy] using this l []
theorem ui {α β γ : Type} (l : List α) (f : Nat → α → β) (g : β → γ) : (l.mapIdx f).map g = l.mapIdx fun i a => g (f i a) := by
 apply List.ext_getElem?
 intro i
 rw [List.getElem?_map, List.getElem?_mapIdx, List.getElem?_mapIdx, Option.map_map]
 rfl
theorem w7 (t : af) (ss : List StretchD) : (je t ss).map (fun r => ((r.ch, r.ln) : L2)) = dn t := by
 unfold je dn
 rw [List.map_flatten, ui]
 congr 2
 funext k c
 rw [ui]
 rfl
theorem w6 {t : af} {ss : List StretchD} {r : n2} (h : r ∈ je t ss) : r.au = ((av ss (r.ch, r.ln)).getD (0, 0)).1 ∧ r.nu = ((av ss (r.ch, r.ln)).getD (0, 0)).2 := by
 unfold je at h
 obtain ⟨l, hl, hr⟩ := List.mem_flatten.1 h
 obtain ⟨k, hk, rfl⟩ := List.mem_mapIdx.1 hl
 obtain ⟨n, hn, rfl⟩ := List.mem_mapIdx.1 hr
 exact ⟨rfl, rfl⟩
/-- the rows of a chapter's lines -/
def rowL (ss : List StretchD) (k : Nat) (ls : List (List ByteArray)) : List n2 := ls.mapIdx fun n l => rx ss (k, n) l.length
theorem uid (ss : List StretchD) {t : af} {k : Nat} {c : bh} (h : t[k]? = some c) : je (t.take (k + 1)) ss = je (t.take k) ss ++ rowL ss k c.lines := by
 unfold je
 rw [xy h, List.flatten_append]; simp [rowL]
theorem uih (ss : List StretchD) (k : Nat) (ls : List (List ByteArray)) : (rowL ss k ls).length = ls.length := by simp [rowL]
theorem uie {t : af} (ht : bw t = true) (ss : List StretchD) (k : Nat) : (je (t.take k) ss).length ≤ 10 * k := by
 induction k with
 | zero => simp [je]
 | succ k ih =>
  cases hk : t[k]? with
  | none =>
   have h1 : t.take (k + 1) = t.take k := by rw [List.take_add_one, hk]; simp
   rw [h1]; omega
  | some c =>
   rw [uid ss hk, List.length_append, uih]
   have := ((kh ht).2.2 c (List.mem_of_getElem? hk)).2.1
   omega
theorem uif {t : af} (ht : bw t = true) (ss : List StretchD) : (je t ss).length ≤ 60 := by
 have h1 := uie ht ss t.length
 rw [List.take_length] at h1
 have := (kh ht).2.1
 omega
/-- rows without numbers; rows that go on -/
def vd (l : List n2) : List PlaceD := (l.filter fun r => decide (r.au = 0)).map fun r => ⟨r.ch, r.ln, 0⟩
structure SBd (s : StretchD) : Prop where
 fr : -100000 ≤ s.fr ∧ s.fr ≤ 100000
 tt : -100001 ≤ s.tt ∧ s.tt ≤ 100001
 fi : -100000 ≤ s.fi ∧ s.fi ≤ 100000
theorem ukw {out : List StretchD} {p v : L2} (h : ∀ s ∈ out, SBd s) (hp : -100000 ≤ p.2 ∧ p.2 ≤ 100000) (hv : -100000 ≤ v.2 ∧ v.2 ≤ 100000) : ∀ s ∈ qm out p v, SBd s := by
 have hnew : SBd ⟨p.1, p.2, p.2 + 1, v.1, v.2⟩ := ⟨hp, by simp only; omega, hv⟩
 intro s hs
 unfold qm at hs
 split at hs
 ·rename_i x hx
  cases hg : l4 x p v with
  | true =>
   rw [hg] at hs
   rcases List.mem_or_eq_of_mem_set hs with hs | rfl
   ·exact h s hs
   ·have hb := h x (List.mem_of_getElem? hx)
    simp only [l4, Bool.and_eq_true, decide_eq_true_eq] at hg
    exact ⟨hb.fr, by have := hb.tt; simp only; omega, hb.fi⟩
  | false =>
   rw [hg] at hs
   rcases List.mem_append.1 hs with hs | hs
   ·exact h s hs
   ·rw [List.mem_singleton] at hs; exact hs ▸ hnew
 ·rcases List.mem_append.1 hs with hs | hs
  ·exact h s hs
  ·rw [List.mem_singleton] at hs; exact hs ▸ hnew
/-- stretches that go on, and how often one did -/
def kq (f : L2 → Option L2) (o : List StretchD × Nat) (p : L2) : List StretchD × Nat := match f p with
 | none => o
 | some v => match o.1[o.1.length - 1]? with
  | some s => bif l4 s p v then (o.1.set (o.1.length - 1) { s with tt := s.tt + 1 }, o.2 + 1) else (o.1 ++ [⟨p.1, p.2, p.2 + 1, v.1, v.2⟩], o.2)
  | none => (o.1 ++ [⟨p.1, p.2, p.2 + 1, v.1, v.2⟩], o.2)
def kr (f : L2 → Option L2) (l : List L2) : List StretchD × Nat := l.foldl (kq f) ([], 0)
theorem uji (f : L2 → Option L2) (l : List L2) (p : L2) : kr f (l ++ [p]) = kq f (kr f l) p := by simp [kr]
theorem uhd (f : L2 → Option L2) (o : List StretchD × Nat) (p : L2) : (kq f o p).1 = my f o.1 p := by
 unfold kq my
 cases f p with
 | none => rfl
 | some v =>
  simp only [qm]
  cases o.1[o.1.length - 1]? with
  | none => rfl
  | some s => simp only; cases l4 s p v <;> rfl
theorem uba (f : L2 → Option L2) (l : List L2) : (kr f l).1 = fy f l := by
 have : ∀ (l : List L2) (o : List StretchD × Nat), (l.foldl (kq f) o).1 = l.foldl (my f) o.1 := by
  intro l
  induction l with
  | nil => intro o; rfl
  | cons p l ih => intro o; rw [List.foldl_cons, List.foldl_cons, ih, uhd]
 exact this l ([], 0)
theorem tj {f : L2 → Option L2} {o : List StretchD × Nat} {p : L2} (h : f p = none) : kq f o p = o := by simp [kq, h]
theorem uha {f : L2 → Option L2} {out : List StretchD} {w : Nat} {p v : L2} {s : StretchD} (h : f p = some v) (hs : out[out.length - 1]? = some s) (hg : l4 s p v = true) : kq f (out, w) p = (out.set (out.length - 1) { s with tt := s.tt + 1 }, w + 1) := by
 simp [kq, h, hs, hg]
theorem uhc {f : L2 → Option L2} {out : List StretchD} {w : Nat} {p v : L2} {s : StretchD} (h : f p = some v) (hs : out[out.length - 1]? = some s) (hg : l4 s p v = false) : kq f (out, w) p = (out ++ [⟨p.1, p.2, p.2 + 1, v.1, v.2⟩], w) := by
 simp [kq, h, hs, hg]
theorem uhb {f : L2 → Option L2} {out : List StretchD} {w : Nat} {p v : L2} (h : f p = some v) (h0 : out = []) : kq f (out, w) p = (out ++ [⟨p.1, p.2, p.2 + 1, v.1, v.2⟩], w) := by
 subst h0; simp [kq, h]
theorem ujh {f : L2 → Option L2} (hf : ∀ p v, f p = some v → -100000 ≤ v.2 ∧ v.2 ≤ 100000) : ∀ {l : List L2}, (∀ p ∈ l, -100000 ≤ p.2 ∧ p.2 ≤ 100000) → ∀ s ∈ fy f l, SBd s := by
 have : ∀ (l : List L2) (out : List StretchD), (∀ p ∈ l, -100000 ≤ p.2 ∧ p.2 ≤ 100000) → (∀ s ∈ out, SBd s) → ∀ s ∈ l.foldl (my f) out, SBd s := by
  intro l
  induction l with
  | nil => intro out _ h; exact h
  | cons p l ih =>
   intro out hl ho
   rw [List.foldl_cons]
   refine ih _ (fun p hp => hl p (List.mem_cons_of_mem _ hp)) ?_
   unfold my
   split
   ·rename_i v hv
    exact ukw ho (hl p (List.mem_cons_self ..)) (hf p v hv)
   ·exact ho
 intro l hl
 exact this l [] hl (by simp)
theorem uck {t : af} (ht : bw t = true) {p : L2} (hp : p ∈ dn t) : 0 ≤ p.1 ∧ p.1 ≤ 5 ∧ 0 ≤ p.2 ∧ p.2 ≤ 9 := by
 unfold dn at hp
 obtain ⟨l, hl, hr⟩ := List.mem_flatten.1 hp
 obtain ⟨k, hk, rfl⟩ := List.mem_mapIdx.1 hl
 obtain ⟨n, hn, rfl⟩ := List.mem_mapIdx.1 hr
 obtain ⟨t1, t2, t3⟩ := kh ht
 have h3 := (t3 _ (List.getElem_mem hk)).2.1
 simp only
 omega
end Go.AB
