/-
 Charts in plain words: the last line of a chapter; lines that are moved.
-/
import Derived.Test.YtjjklfgpffgnfabGreatDoorCxTells
namespace Go.AB
open Go Go.RowKit
open Go.PB (Chap TextD PlaceD ReadingD CopyD WayD)
/-- the greatest of numbers; 0 if there is none -/
structure MaxOf (S : Int → Prop) (n : Int) : Prop where
 some : n = 0 ∨ S n
 all : ∀ k, S k → k ≤ n
theorem MaxOf.uniq {S S' : Int → Prop} {n m : Int} (h : MaxOf S n) (k : MaxOf S' m) (e : ∀ x, S x ↔ S' x) (hp : ∀ x, S x → 1 ≤ x) : n = m := by
 rcases h.some with h1 | h1
 ·rcases k.some with k1 | k1
  ·rw [h1, k1]
  ·have := h.all m ((e m).2 k1)
   have := hp m ((e m).2 k1)
   omega
 ·rcases k.some with k1 | k1
  ·have := k.all n ((e n).1 h1)
   have := hp n h1
   omega
  ·have := h.all m ((e m).2 k1)
   have := k.all n ((e n).1 h1)
   omega
def stepM {α : Type} (g : α → Option Int) (n : Int) (x : α) : Int := match g x with
 | some k => max n k
 | none => n
def maxF {α : Type} (g : α → Option Int) (l : List α) : Int := l.foldl (stepM g) 0
theorem maxF_snoc {α : Type} (g : α → Option Int) (l : List α) (x : α) : maxF g (l ++ [x]) = stepM g (maxF g l) x := by simp [maxF]
theorem foldM {α : Type} (g : α → Option Int) : ∀ (l : List α) (n : Int), (l.foldl (stepM g) n = n ∨ ∃ x ∈ l, g x = some (l.foldl (stepM g) n)) ∧ (∀ x ∈ l, ∀ k, g x = some k → k ≤ l.foldl (stepM g) n) ∧ n ≤ l.foldl (stepM g) n
 | [], n => ⟨.inl rfl, fun x hx => by simp at hx, Int.le_refl _⟩
 | y :: l, n => by
  rw [List.foldl_cons]
  obtain ⟨h1, h2, h3⟩ := foldM g l (stepM g n y)
  have hn : n ≤ stepM g n y := by unfold stepM; split <;> omega
  have hy : ∀ k, g y = some k → k ≤ stepM g n y := fun k hk => by simp only [stepM, hk]; omega
  refine ⟨?_, fun x hx k hk => ?_, by omega⟩
  ·rcases h1 with h1 | ⟨x, hx, hg⟩
   ·cases hg : g y with
    | none => left; rw [h1]; simp [stepM, hg]
    | some k =>
     have he : stepM g n y = max n k := by simp [stepM, hg]
     by_cases hk : n ≤ k
     ·right; exact ⟨y, List.mem_cons_self .., by rw [h1, he, hg]; congr 1; omega⟩
     ·left; rw [h1, he]; omega
   ·exact .inr ⟨x, List.mem_cons_of_mem _ hx, hg⟩
  ·rcases List.mem_cons.1 hx with rfl | hx
   ·have := hy k hk; omega
   ·exact h2 x hx k hk
theorem maxF_max {α : Type} (g : α → Option Int) (l : List α) : MaxOf (fun k => ∃ x ∈ l, g x = some k) (maxF g l) := by
 obtain ⟨h1, h2, _⟩ := foldM g l 0
 exact ⟨h1, fun k ⟨x, hx, hk⟩ => h2 x hx k hk⟩
theorem maxF_pos {α : Type} (g : α → Option Int) (l : List α) : 0 ≤ maxF g l := (foldM g l 0).2.2
theorem maxF_le {α : Type} {g : α → Option Int} {l : List α} {b : Int} (hb : 0 ≤ b) (h : ∀ x ∈ l, ∀ k, g x = some k → k ≤ b) : maxF g l ≤ b := by
 rcases (maxF_max g l).some with h1 | ⟨x, hx, h1⟩
 ·omega
 ·exact h x hx _ h1
def gKey (c : Int) (q : L2) : Option Int := bif decide (q.1 = c) then some q.2 else none
def gRow (c : Int) (r : RowD) : Option Int := bif decide (r.au = c) && decide (0 < c) then some r.nu else none
theorem gKey_some {c k : Int} {q : L2} : gKey c q = some k ↔ q = (c, k) := by
 obtain ⟨a, b⟩ := q
 unfold gKey
 by_cases h : a = c <;> simp [h]
theorem gRow_some {c k : Int} {r : RowD} : gRow c r = some k ↔ (r.au = c ∧ 0 < c) ∧ r.nu = k := by
 unfold gRow
 by_cases h : r.au = c
 ·by_cases h2 : 0 < c
  ·simp [h, h2]
  ·simp [h, h2]
 ·simp [h]
/-- the number of the last line of a chapter -/
def lastC (t : TextD) (ss : List StretchD) (c : Int) : Int := maxF (gRow c) (rowsT t ss)

/-! ### Lines and numbers of a sound edition -/
structure Sound (t : TextD) (ss : List StretchD) : Prop where
 tx : textB t = true
 len : ss.length ≤ 12
 str : ∀ s ∈ ss, strB t s = true
 no : firstC ss = none
theorem soundEr_sound {t : TextD} {e : EditionD} (h : soundEr t e = 0) : Sound t e.ss := by
 obtain ⟨h0, hf⟩ := soundEr_check h
 obtain ⟨h1, h2⟩ := checkEr_ok h0
 simp only [editionB, Bool.and_eq_true, decide_eq_true_eq, List.all_eq_true] at h2
 exact ⟨h1, h2.2.1, h2.2.2, hf⟩
theorem Sound.ok {t : TextD} {ss : List StretchD} (h : Sound t ss) : ∀ s ∈ ss, SOk s := fun s hs => str_ok h.tx (h.str s hs)
theorem least_of {p : Nat → Prop} (h : ∃ n, p n) : ∃ n, p n ∧ ∀ m, m < n → ¬ p m := by
 obtain ⟨n, hn⟩ := h
 induction n using Nat.strongRecOn with
 | _ n ih =>
  by_cases hx : ∃ m, m < n ∧ p m
  ·obtain ⟨m, h1, h2⟩ := hx
   exact ih m h1 h2
  ·exact ⟨n, hn, fun m hm hp => hx ⟨m, hm, hp⟩⟩
theorem firstC_none {ss : List StretchD} (h : firstC ss = none) : ∀ a b, ¬ isClash ss a b := by
 unfold firstC at h
 split at h
 ·rename_i hx
  have h2 := Exists.choose_spec hx
  rw [h] at h2
  exact h2
 ·rename_i hx
  by_cases hc : ∃ a b, isClash ss a b
  ·exfalso
   classical
   obtain ⟨a, b, hab⟩ := hc
   -- the first one
   have hex : ∃ n, ∃ a b, isClash ss a b ∧ a * (ss.length + 1) + b = n := ⟨_, a, b, hab, rfl⟩
   obtain ⟨n0, ⟨c, d, hcd, hn⟩, hmin⟩ := least_of hex
   rw [← hn] at hmin
   refine hx ⟨some (c, d), hcd, fun x y hxy => ?_⟩
   rcases Nat.lt_trichotomy c x with h1 | h1 | h1
   ·exact .inl h1
   ·subst h1
    refine .inr ⟨rfl, ?_⟩
    by_cases h2 : d ≤ y
    ·exact h2
    ·exact absurd ⟨c, y, hxy, rfl⟩ (hmin (c * (ss.length + 1) + y) (by show _ < c * (ss.length + 1) + d; omega))
   ·have hy : y < ss.length := by
     obtain ⟨_, _, _, _, hy, _⟩ := hxy
     exact (List.getElem?_eq_some_iff.1 hy).1
    refine absurd ⟨x, y, hxy, rfl⟩ (hmin (x * (ss.length + 1) + y) ?_)
    have : (x + 1) * (ss.length + 1) ≤ c * (ss.length + 1) := Nat.mul_le_mul_right _ h1
    rw [Nat.add_mul, Nat.one_mul] at this
    show _ < c * (ss.length + 1) + d
    omega
  ·exact fun a b hab => hc ⟨a, b, hab⟩
theorem clash_base {s u : StretchD} {p : L2} (hs : hasB s p = true) (hu : hasB u p = true) : clashB s u = true := by
 rw [hasB_true] at hs hu
 unfold clashB meetB
 simp only [Bool.or_eq_true, Bool.and_eq_true, decide_eq_true_eq]
 left; omega
theorem clash_num {s u : StretchD} {q : L2} (hs : hasE s q = true) (hu : hasE u q = true) : clashB s u = true := by
 rw [hasE_true] at hs hu
 unfold clashB meetB
 simp only [Bool.or_eq_true, Bool.and_eq_true, decide_eq_true_eq]
 right; omega
theorem one_of {ss : List StretchD} (h : firstC ss = none) {s u : StretchD} (hs : s ∈ ss) (hu : u ∈ ss) (hc : clashB s u = true) (hc' : clashB u s = true) : s = u := by
 obtain ⟨i, hi⟩ := List.getElem?_of_mem hs
 obtain ⟨j, hj⟩ := List.getElem?_of_mem hu
 rcases Nat.lt_trichotomy i j with h1 | h1 | h1
 ·exact absurd ⟨h1, s, u, hi, hj, hc⟩ (firstC_none h i j)
 ·subst h1; rw [hi] at hj; cases hj; rfl
 ·exact absurd ⟨h1, u, s, hj, hi, hc'⟩ (firstC_none h j i)
theorem hasE_toE {s : StretchD} {p : L2} (h : hasB s p = true) : hasE s (toE s p) = true := by
 rw [hasB_true] at h
 rw [hasE_true]
 refine ⟨rfl, ?_, ?_⟩ <;> (simp only [toE]; omega)
theorem hasB_toB {s : StretchD} {q : L2} (h : hasE s q = true) : hasB s (toB s q) = true := by
 rw [hasE_true] at h
 rw [hasB_true]
 refine ⟨rfl, ?_, ?_⟩ <;> (simp only [toB]; omega)
theorem toB_toE {s : StretchD} {p : L2} (h : hasB s p = true) : toB s (toE s p) = p := by
 rw [hasB_true] at h
 obtain ⟨a, b⟩ := p
 simp only [toB, toE, Prod.mk.injEq]; simp only at h; omega
theorem toE_toB {s : StretchD} {q : L2} (h : hasE s q = true) : toE s (toB s q) = q := by
 rw [hasE_true] at h
 obtain ⟨a, b⟩ := q
 simp only [toB, toE, Prod.mk.injEq]; simp only at h; omega
theorem asOf_iff {ss : List StretchD} (h : firstC ss = none) {p v : L2} : asOf ss p = some v ↔ ∃ s ∈ ss, hasB s p = true ∧ toE s p = v := by
 unfold asOf
 constructor
 ·intro hv
  cases hf : ss.find? fun s => hasB s p with
  | none => rw [hf] at hv; cases hv
  | some s =>
   rw [hf] at hv
   simp only [Option.map_some, Option.some.injEq] at hv
   exact ⟨s, List.mem_of_find?_eq_some hf, List.find?_some (p := fun s => hasB s p) hf, hv⟩
 ·rintro ⟨s, hs, hb, rfl⟩
  cases hf : ss.find? fun s => hasB s p with
  | none => rw [List.find?_eq_none] at hf; exact absurd hb (hf s hs)
  | some u =>
   have h1 := List.find?_some (p := fun s => hasB s p) hf
   rw [one_of h hs (List.mem_of_find?_eq_some hf) (clash_base hb h1) (clash_base h1 hb)]
   rfl
theorem backOf_iff {ss : List StretchD} (h : firstC ss = none) {p v : L2} : backOf ss v = some p ↔ ∃ s ∈ ss, hasE s v = true ∧ toB s v = p := by
 unfold backOf
 constructor
 ·intro hv
  cases hf : ss.find? fun s => hasE s v with
  | none => rw [hf] at hv; cases hv
  | some s =>
   rw [hf] at hv
   simp only [Option.map_some, Option.some.injEq] at hv
   exact ⟨s, List.mem_of_find?_eq_some hf, List.find?_some (p := fun s => hasE s v) hf, hv⟩
 ·rintro ⟨s, hs, hb, rfl⟩
  cases hf : ss.find? fun s => hasE s v with
  | none => rw [List.find?_eq_none] at hf; exact absurd hb (hf s hs)
  | some u =>
   have h1 := List.find?_some (p := fun s => hasE s v) hf
   rw [one_of h hs (List.mem_of_find?_eq_some hf) (clash_num hb h1) (clash_num h1 hb)]
   rfl
/-- back and forth -/
theorem back_iff {ss : List StretchD} (h : firstC ss = none) {p v : L2} : backOf ss v = some p ↔ asOf ss p = some v := by
 rw [backOf_iff h, asOf_iff h]
 constructor
 ·rintro ⟨s, hs, hb, rfl⟩
  exact ⟨s, hs, hasB_toB hb, toE_toB hb⟩
 ·rintro ⟨s, hs, hb, rfl⟩
  exact ⟨s, hs, hasE_toE hb, toB_toE hb⟩
theorem asOf_line {t : TextD} {ss : List StretchD} (h : Sound t ss) {p v : L2} (hv : asOf ss p = some v) : ∃ r ∈ rowsT t ss, (r.ch, r.ln) = p ∧ (r.au, r.nu) = v := by
 obtain ⟨s, hs, hb, rfl⟩ := (asOf_iff h.no).1 hv
 have h1 := h.str s hs
 have h2 := h.ok s hs
 rw [hasB_true] at hb
 simp only [strB, sB1, sB2, Bool.and_eq_true, inB_true] at h1
 obtain ⟨c, hc⟩ : ∃ c, t[p.1.toNat]? = some c := ⟨_, List.getElem?_eq_getElem (by omega)⟩
 have hn := nlines_get (t := t) (c := s.ch) (k := p.1.toNat) (by omega) hc
 obtain ⟨l, hl⟩ : ∃ l, c.lines[p.2.toNat]? = some l := ⟨_, List.getElem?_eq_getElem (by have := h2.fr; omega)⟩
 have hp : (((p.1.toNat : Nat) : Int), ((p.2.toNat : Nat) : Int)) = p := Prod.ext (by simp only; omega) (by simp only; have := h2.fr; omega)
 refine ⟨rowOf ss (((p.1.toNat : Nat) : Int), ((p.2.toNat : Nat) : Int)) l.length, ?_, ?_, ?_⟩
 ·unfold rowsT
  refine List.mem_flatten.2 ⟨_, List.mem_of_getElem? (i := p.1.toNat) (by rw [List.getElem?_mapIdx, hc]; rfl), ?_⟩
  exact List.mem_of_getElem? (i := p.2.toNat) (by rw [List.getElem?_mapIdx, hl]; rfl)
 ·exact hp
 ·unfold rowOf
  simp only
  rw [hp, hv]
  rfl
/-- the last line of a chapter, as the program finds it -/
theorem last_same {t : TextD} {ss : List StretchD} (h : Sound t ss) {ks : List L2} (hks : ∀ x, backOf ss x ≠ none ↔ x ∈ ks) (c : Int) : maxF (gKey c) ks = lastC t ss c := by
 have hok := h.ok
 refine (maxF_max (gKey c) ks).uniq (maxF_max (gRow c) (rowsT t ss)) (fun k => ?_) (fun k ⟨q, hq, hk⟩ => ?_)
 ·constructor
  ·rintro ⟨q, hq, hk⟩
   rw [gKey_some] at hk
   subst hk
   obtain ⟨p, hp⟩ := Option.ne_none_iff_exists'.1 ((hks _).2 hq)
   have hv := (back_iff h.no).1 hp
   have hpos := asOf_pos hok hv
   obtain ⟨r, hr, h1, h2⟩ := asOf_line h hv
   cases h2
   exact ⟨r, hr, gRow_some.2 ⟨⟨rfl, by simp only at hpos; omega⟩, rfl⟩⟩
  ·rintro ⟨r, hr, hk⟩
   rw [gRow_some] at hk
   obtain ⟨⟨h1, h2⟩, h3⟩ := hk
   obtain ⟨r1, r2⟩ := rows_spec hr
   cases hv : asOf ss (r.ch, r.ln) with
   | none => rw [hv] at r1; simp only [Option.getD_none] at r1; omega
   | some v =>
    rw [hv] at r1 r2
    simp only [Option.getD_some] at r1 r2
    refine ⟨(c, k), (hks _).1 ?_, gKey_some.2 rfl⟩
    rw [show ((c, k) : L2) = v from Prod.ext (by simp only; omega) (by simp only; omega), (back_iff h.no).2 hv]
    simp
 ·rw [gKey_some] at hk
  subst hk
  obtain ⟨p, hp⟩ := Option.ne_none_iff_exists'.1 ((hks _).2 hq)
  have := asOf_pos hok ((back_iff h.no).1 hp)
  simp only at this; omega
theorem lastC_bd {t : TextD} {ss : List StretchD} (h : ∀ s ∈ ss, SOk s) (c : Int) : 0 ≤ lastC t ss c ∧ lastC t ss c ≤ 999 := by
 refine ⟨maxF_pos _ _, maxF_le (by omega) fun r hr k hk => ?_⟩
 rw [gRow_some] at hk
 obtain ⟨r1, r2⟩ := rows_spec hr
 cases hv : asOf ss (r.ch, r.ln) with
 | none => rw [hv] at r2; simp only [Option.getD_none] at r2; omega
 | some v =>
  have := asOf_pos h hv
  rw [hv] at r2
  simp only [Option.getD_some] at r2
  omega

/-! ### Lines that are moved -/
def moveO (c l to mo : Int) (v : L2) : L2 := bif decide (v.1 = c) && decide (l ≤ v.2) then (to, v.2 + mo) else v
def moveF (f : L2 → Option L2) (c l to mo : Int) : L2 → Option L2 := fun p => (f p).map (moveO c l to mo)
theorem moveF_bd {ss : List StretchD} (he : ∀ s ∈ ss, SOk s) {c l to mo : Int} (hm : -2000 ≤ mo ∧ mo ≤ 2000) : ∀ p v, moveF (asOf ss) c l to mo p = some v → -100000 ≤ v.2 ∧ v.2 ≤ 100000 := by
 intro p v hv
 unfold moveF at hv
 cases hf : asOf ss p with
 | none => rw [hf] at hv; cases hv
 | some u =>
  have hp := asOf_pos he hf
  rw [hf] at hv
  simp only [Option.map_some, Option.some.injEq] at hv
  subst hv
  unfold moveO
  cases decide (u.1 = c) && decide (l ≤ u.2)
  ·show -100000 ≤ u.2 ∧ u.2 ≤ 100000; omega
  ·show -100000 ≤ u.2 + mo ∧ u.2 + mo ≤ 100000; omega
/-- some lines are moved, others not yet -/
def moveD (f g : L2 → Option L2) (done : List L2) : L2 → Option L2 := fun p => bif decide (p ∈ done) then g p else f p
theorem moveD_nil (f g : L2 → Option L2) : moveD f g [] = f := by funext p; simp [moveD]
theorem moveD_all {f g : L2 → Option L2} {done : List L2} (h : ∀ p, f p ≠ none → p ∈ done) (hg : ∀ p, f p = none → g p = none) : moveD f g done = g := by
 funext p
 unfold moveD
 cases hf : f p with
 | none =>
  rw [hg p hf]
  cases decide (p ∈ done) <;> rfl
 | some v => rw [decide_eq_true (h p (by rw [hf]; simp))]; rfl
theorem moveD_other {f g : L2 → Option L2} {done : List L2} {y : L2} (h : y ∉ done) : moveD f g done y = f y := by simp [moveD, h]
theorem moveD_snoc {f g : L2 → Option L2} {done : List L2} {y v : L2} (hv : g y = some v) : (fun x => if x = y then some (pairC v) else capp (moveD f g done) x) = capp (moveD f g (done ++ [y])) := by
 funext x
 unfold capp moveD
 by_cases hx : x = y
 ·subst hx; simp [hv]
 ·simp [hx]
theorem moveD_same {f g : L2 → Option L2} {done : List L2} {y : L2} (hn : y ∉ done) (hv : g y = f y) : moveD f g (done ++ [y]) = moveD f g done := by
 funext x
 unfold moveD
 by_cases hx : x = y
 ·subst hx; simp [hv, hn]
 ·simp [hx]
def leftN (ks done : List L2) : Nat := (ks.filter fun y => decide (y ∉ done)).length
theorem leftN_lt {ks done : List L2} {y : L2} (hy : y ∈ ks) (hn : y ∉ done) : leftN ks (done ++ [y]) < leftN ks done := by
 unfold leftN
 have : (ks.filter fun z => decide (z ∉ done ++ [y])) = (ks.filter fun z => decide (z ∉ done)).filter fun z => decide (z ≠ y) := by
  rw [List.filter_filter]
  congr 1
  funext z
  simp [and_comm]
 rw [this]
 exact List.length_filter_lt_length_iff_exists.2 ⟨y, List.mem_filter.2 ⟨hy, by simpa using hn⟩, by simp⟩
theorem capp_del (f : L2 → Option L2) (y : L2) : (fun x => if x = y then none else capp f x) = capp fun x => if x = y then none else f x := by
 funext x
 unfold capp
 by_cases hx : x = y <;> simp [hx]

/-! ### Splitting and joining -/
def madeEr (L : List StretchD) : Int := bif decide (12 < L.length) then 9 else 0
def splitL (t : TextD) (e : EditionD) (c l to : Int) : List StretchD := plainS (moveF (asOf e.ss) c l to (1 - l)) (linesT t)
def joinL (t : TextD) (e : EditionD) (c to : Int) : List StretchD := plainS (moveF (asOf e.ss) c 1 to (lastC t e.ss to)) (linesT t)
noncomputable def splitEr (t : TextD) (e : EditionD) (c l to : Int) : Int :=
 bif decide (soundEr t e = 0) then (bif inAll 1 999 [c, l, to] then (bif decide (lastC t e.ss c < l) then 6 else (bif decide (c = to) || decide (0 < lastC t e.ss to) then 9 else madeEr (splitL t e c l to))) else 2) else soundEr t e
noncomputable def joinEr (t : TextD) (e : EditionD) (c to : Int) : Int :=
 bif decide (soundEr t e = 0) then (bif inAll 1 999 [c, to] then (bif decide (lastC t e.ss c = 0) then 6 else (bif decide (c = to) || decide (999 < lastC t e.ss c + lastC t e.ss to) then 9 else madeEr (joinL t e c to))) else 2) else soundEr t e
/-- .. the edition, if there is no error -/
noncomputable def edIf (e : EditionD) (er : Int) (L : List StretchD) : EditionD := bif decide (er = 0) then ⟨e.id, L⟩ else ⟨0, []⟩
end Go.AB
