/-
 Charts in plain words: the last line of a chapter; lines that are moved.
-/
import Derived.Test.YtjjklfgpffgnfabGreatDoorCxTells
namespace Go.AB
open Go Go.RowKit
open Go.PB (bh af PlaceD ar bp cj)
/-- the greatest of numbers; 0 if there is none -/
structure MaxOf (S : Int → Prop) (n : Int) : Prop where
 some : n = 0 ∨ S n
 all : ∀ k, S k → k ≤ n
theorem MaxOf.uniq {S S' : Int → Prop} {n m : Int} (h : MaxOf S n) (k : MaxOf S' m) (e : ∀ x, S x ↔ S' x) (hp : ∀ x, S x → 1 ≤ x) : n = m := by
 rcases h.some with h1 | h1
 ·rcases k.some with k1 | k1
  ·rw [h1, k1]
  ·have := h.all m ((e m).2 k1)
   have := hp m ((e m).2 k1)
   omega
 ·rcases k.some with k1 | k1
  ·have := k.all n ((e n).1 h1)
   have := hp n h1
   omega
  ·have := h.all m ((e m).2 k1)
   have := k.all n ((e n).1 h1)
   omega
def j4 {α : Type} (g : α → Option Int) (n : Int) (x : α) : Int := match g x with
 | some k => max n k
 | none => n
def lg {α : Type} (g : α → Option Int) (l : List α) : Int := l.foldl (j4 g) 0
theorem ub7 {α : Type} (g : α → Option Int) (l : List α) (x : α) : lg g (l ++ [x]) = j4 g (lg g l) x := by simp [lg]
theorem yh {α : Type} (g : α → Option Int) : ∀ (l : List α) (n : Int), (l.foldl (j4 g) n = n ∨ ∃ x ∈ l, g x = some (l.foldl (j4 g) n)) ∧ (∀ x ∈ l, ∀ k, g x = some k → k ≤ l.foldl (j4 g) n) ∧ n ≤ l.foldl (j4 g) n
 | [], n => ⟨.inl rfl, fun x hx => by simp at hx, Int.le_refl _⟩
 | y :: l, n => by
  rw [List.foldl_cons]
  obtain ⟨h1, h2, h3⟩ := yh g l (j4 g n y)
  have hn : n ≤ j4 g n y := by unfold j4; split <;> omega
  have hy : ∀ k, g y = some k → k ≤ j4 g n y := fun k hk => by simp only [j4, hk]; omega
  refine ⟨?_, fun x hx k hk => ?_, by omega⟩
  ·rcases h1 with h1 | ⟨x, hx, hg⟩
   ·cases hg : g y with
    | none => left; rw [h1]; simp [j4, hg]
    | some k =>
     have he : j4 g n y = max n k := by simp [j4, hg]
     by_cases hk : n ≤ k
     ·right; exact ⟨y, List.mem_cons_self .., by rw [h1, he, hg]; congr 1; omega⟩
     ·left; rw [h1, he]; omega
   ·exact .inr ⟨x, List.mem_cons_of_mem _ hx, hg⟩
  ·rcases List.mem_cons.1 hx with rfl | hx
   ·have := hy k hk; omega
   ·exact h2 x hx k hk
theorem xx {α : Type} (g : α → Option Int) (l : List α) : MaxOf (fun k => ∃ x ∈ l, g x = some k) (lg g l) := by
 obtain ⟨h1, h2, _⟩ := yh g l 0
 exact ⟨h1, fun k ⟨x, hx, hk⟩ => h2 x hx k hk⟩
theorem uk2 {α : Type} (g : α → Option Int) (l : List α) : 0 ≤ lg g l := (yh g l 0).2.2
theorem uk3 {α : Type} {g : α → Option Int} {l : List α} {b : Int} (hb : 0 ≤ b) (h : ∀ x ∈ l, ∀ k, g x = some k → k ≤ b) : lg g l ≤ b := by
 rcases (xx g l).some with h1 | ⟨x, hx, h1⟩
 ·omega
 ·exact h x hx _ h1
def mi (c : Int) (q : L2) : Option Int := bif decide (q.1 = c) then some q.2 else none
def gRow (c : Int) (r : n2) : Option Int := bif decide (r.au = c) && decide (0 < c) then some r.nu else none
theorem gKey_some {c k : Int} {q : L2} : mi c q = some k ↔ q = (c, k) := by
 obtain ⟨a, b⟩ := q
 unfold mi
 by_cases h : a = c <;> simp [h]
theorem gRow_some {c k : Int} {r : n2} : gRow c r = some k ↔ (r.au = c ∧ 0 < c) ∧ r.nu = k := by
 unfold gRow
 by_cases h : r.au = c
 ·by_cases h2 : 0 < c
  ·simp [h, h2]
  ·simp [h, h2]
 ·simp [h]
/-- the number of the last line of a chapter -/
def i5 (t : af) (ss : List StretchD) (c : Int) : Int := lg (gRow c) (je t ss)

/-! ### Lines and numbers of a sound edition -/
structure Sound (t : af) (ss : List StretchD) : Prop where
 tx : bw t = true
 len : ss.length ≤ 12
 str : ∀ s ∈ ss, fu t s = true
 no : ff ss = none
theorem mu {t : af} {e : aw} (h : cb t e = 0) : Sound t e.ss := by
 obtain ⟨h0, hf⟩ := lp h
 obtain ⟨h1, h2⟩ := ueu h0
 simp only [iv, Bool.and_eq_true, decide_eq_true_eq, List.all_eq_true] at h2
 exact ⟨h1, h2.2.1, h2.2.2, hf⟩
theorem Sound.ok {t : af} {ss : List StretchD} (h : Sound t ss) : ∀ s ∈ ss, SOk s := fun s hs => uae h.tx (h.str s hs)
theorem ulh {p : Nat → Prop} (h : ∃ n, p n) : ∃ n, p n ∧ ∀ m, m < n → ¬ p m := by
 obtain ⟨n, hn⟩ := h
 induction n using Nat.strongRecOn with
 | _ n ih =>
  by_cases hx : ∃ m, m < n ∧ p m
  ·obtain ⟨m, h1, h2⟩ := hx
   exact ih m h1 h2
  ·exact ⟨n, hn, fun m hm hp => hx ⟨m, hm, hp⟩⟩
theorem udo {ss : List StretchD} (h : ff ss = none) : ∀ a b, ¬ ju ss a b := by
 unfold ff at h
 split at h
 ·rename_i hx
  have h2 := Exists.choose_spec hx
  rw [h] at h2
  exact h2
 ·rename_i hx
  by_cases hc : ∃ a b, ju ss a b
  ·exfalso
   classical
   obtain ⟨a, b, hab⟩ := hc
   -- the first one
   have hex : ∃ n, ∃ a b, ju ss a b ∧ a * (ss.length + 1) + b = n := ⟨_, a, b, hab, rfl⟩
   obtain ⟨n0, ⟨c, d, hcd, hn⟩, hmin⟩ := ulh hex
   rw [← hn] at hmin
   refine hx ⟨some (c, d), hcd, fun x y hxy => ?_⟩
   rcases Nat.lt_trichotomy c x with h1 | h1 | h1
   ·exact .inl h1
   ·subst h1
    refine .inr ⟨rfl, ?_⟩
    by_cases h2 : d ≤ y
    ·exact h2
    ·exact absurd ⟨c, y, hxy, rfl⟩ (hmin (c * (ss.length + 1) + y) (by show _ < c * (ss.length + 1) + d; omega))
   ·have hy : y < ss.length := by
     obtain ⟨_, _, _, _, hy, _⟩ := hxy
     exact (List.getElem?_eq_some_iff.1 hy).1
    refine absurd ⟨x, y, hxy, rfl⟩ (hmin (x * (ss.length + 1) + y) ?_)
    have : (x + 1) * (ss.length + 1) ≤ c * (ss.length + 1) := Nat.mul_le_mul_right _ h1
    rw [Nat.add_mul, Nat.one_mul] at this
    show _ < c * (ss.length + 1) + d
    omega
  ·exact fun a b hab => hc ⟨a, b, hab⟩
theorem ueq {s u : StretchD} {p : L2} (hs : jb s p = true) (hu : jb u p = true) : k7 s u = true := by
 rw [ns] at hs hu
 unfold k7 lu
 simp only [Bool.or_eq_true, Bool.and_eq_true, decide_eq_true_eq]
 left; omega
theorem uep {s u : StretchD} {q : L2} (hs : jh s q = true) (hu : jh u q = true) : k7 s u = true := by
 rw [pm] at hs hu
 unfold k7 lu
 simp only [Bool.or_eq_true, Bool.and_eq_true, decide_eq_true_eq]
 right; omega
theorem ubk {ss : List StretchD} (h : ff ss = none) {s u : StretchD} (hs : s ∈ ss) (hu : u ∈ ss) (hc : k7 s u = true) (hc' : k7 u s = true) : s = u := by
 obtain ⟨i, hi⟩ := List.getElem?_of_mem hs
 obtain ⟨j, hj⟩ := List.getElem?_of_mem hu
 rcases Nat.lt_trichotomy i j with h1 | h1 | h1
 ·exact absurd ⟨h1, s, u, hi, hj, hc⟩ (udo h i j)
 ·subst h1; rw [hi] at hj; cases hj; rfl
 ·exact absurd ⟨h1, u, s, hj, hi, hc'⟩ (udo h j i)
theorem ums {s : StretchD} {p : L2} (h : jb s p = true) : jh s (toE s p) = true := by
 rw [ns] at h
 rw [pm]
 refine ⟨rfl, ?_, ?_⟩ <;> (simp only [toE]; omega)
theorem umu {s : StretchD} {q : L2} (h : jh s q = true) : jb s (toB s q) = true := by
 rw [pm] at h
 rw [ns]
 refine ⟨rfl, ?_, ?_⟩ <;> (simp only [toB]; omega)
theorem ugp {s : StretchD} {p : L2} (h : jb s p = true) : toB s (toE s p) = p := by
 rw [ns] at h
 obtain ⟨a, b⟩ := p
 simp only [toB, toE, Prod.mk.injEq]; simp only at h; omega
theorem ugo {s : StretchD} {q : L2} (h : jh s q = true) : toE s (toB s q) = q := by
 rw [pm] at h
 obtain ⟨a, b⟩ := q
 simp only [toB, toE, Prod.mk.injEq]; simp only at h; omega
theorem ufl {ss : List StretchD} (h : ff ss = none) {p v : L2} : av ss p = some v ↔ ∃ s ∈ ss, jb s p = true ∧ toE s p = v := by
 unfold av
 constructor
 ·intro hv
  cases hf : ss.find? fun s => jb s p with
  | none => rw [hf] at hv; cases hv
  | some s =>
   rw [hf] at hv
   simp only [Option.map_some, Option.some.injEq] at hv
   exact ⟨s, List.mem_of_find?_eq_some hf, List.find?_some (p := fun s => jb s p) hf, hv⟩
 ·rintro ⟨s, hs, hb, rfl⟩
  cases hf : ss.find? fun s => jb s p with
  | none => rw [List.find?_eq_none] at hf; exact absurd hb (hf s hs)
  | some u =>
   have h1 := List.find?_some (p := fun s => jb s p) hf
   rw [ubk h hs (List.mem_of_find?_eq_some hf) (ueq hb h1) (ueq h1 hb)]
   rfl
theorem up4 {ss : List StretchD} (h : ff ss = none) {p v : L2} : cn ss v = some p ↔ ∃ s ∈ ss, jh s v = true ∧ toB s v = p := by
 unfold cn
 constructor
 ·intro hv
  cases hf : ss.find? fun s => jh s v with
  | none => rw [hf] at hv; cases hv
  | some s =>
   rw [hf] at hv
   simp only [Option.map_some, Option.some.injEq] at hv
   exact ⟨s, List.mem_of_find?_eq_some hf, List.find?_some (p := fun s => jh s v) hf, hv⟩
 ·rintro ⟨s, hs, hb, rfl⟩
  cases hf : ss.find? fun s => jh s v with
  | none => rw [List.find?_eq_none] at hf; exact absurd hb (hf s hs)
  | some u =>
   have h1 := List.find?_some (p := fun s => jh s v) hf
   rw [ubk h hs (List.mem_of_find?_eq_some hf) (uep hb h1) (uep h1 hb)]
   rfl
/-- back and forth -/
theorem kp {ss : List StretchD} (h : ff ss = none) {p v : L2} : cn ss v = some p ↔ av ss p = some v := by
 rw [up4 h, ufl h]
 constructor
 ·rintro ⟨s, hs, hb, rfl⟩
  exact ⟨s, hs, umu hb, ugo hb⟩
 ·rintro ⟨s, hs, hb, rfl⟩
  exact ⟨s, hs, ums hb, ugp hb⟩
theorem ufk {t : af} {ss : List StretchD} (h : Sound t ss) {p v : L2} (hv : av ss p = some v) : ∃ r ∈ je t ss, (r.ch, r.ln) = p ∧ (r.au, r.nu) = v := by
 obtain ⟨s, hs, hb, rfl⟩ := (ufl h.no).1 hv
 have h1 := h.str s hs
 have h2 := h.ok s hs
 rw [ns] at hb
 simp only [fu, sB1, sB2, Bool.and_eq_true, inB_true] at h1
 obtain ⟨c, hc⟩ : ∃ c, t[p.1.toNat]? = some c := ⟨_, List.getElem?_eq_getElem (by omega)⟩
 have hn := ub (t := t) (c := s.ch) (k := p.1.toNat) (by omega) hc
 obtain ⟨l, hl⟩ : ∃ l, c.lines[p.2.toNat]? = some l := ⟨_, List.getElem?_eq_getElem (by have := h2.fr; omega)⟩
 have hp : (((p.1.toNat : Nat) : Int), ((p.2.toNat : Nat) : Int)) = p := Prod.ext (by simp only; omega) (by simp only; have := h2.fr; omega)
 refine ⟨rx ss (((p.1.toNat : Nat) : Int), ((p.2.toNat : Nat) : Int)) l.length, ?_, ?_, ?_⟩
 ·unfold je
  refine List.mem_flatten.2 ⟨_, List.mem_of_getElem? (i := p.1.toNat) (by rw [List.getElem?_mapIdx, hc]; rfl), ?_⟩
  exact List.mem_of_getElem? (i := p.2.toNat) (by rw [List.getElem?_mapIdx, hl]; rfl)
 ·exact hp
 ·unfold rx
  simp only
  rw [hp, hv]
  rfl
/-- the last line of a chapter, as the program finds it -/
theorem ulu {t : af} {ss : List StretchD} (h : Sound t ss) {ks : List L2} (hks : ∀ x, cn ss x ≠ none ↔ x ∈ ks) (c : Int) : lg (mi c) ks = i5 t ss c := by
 have hok := h.ok
 refine (xx (mi c) ks).uniq (xx (gRow c) (je t ss)) (fun k => ?_) (fun k ⟨q, hq, hk⟩ => ?_)
 ·constructor
  ·rintro ⟨q, hq, hk⟩
   rw [gKey_some] at hk
   subst hk
   obtain ⟨p, hp⟩ := Option.ne_none_iff_exists'.1 ((hks _).2 hq)
   have hv := (kp h.no).1 hp
   have hpos := l8 hok hv
   obtain ⟨r, hr, h1, h2⟩ := ufk h hv
   cases h2
   exact ⟨r, hr, gRow_some.2 ⟨⟨rfl, by simp only at hpos; omega⟩, rfl⟩⟩
  ·rintro ⟨r, hr, hk⟩
   rw [gRow_some] at hk
   obtain ⟨⟨h1, h2⟩, h3⟩ := hk
   obtain ⟨r1, r2⟩ := w6 hr
   cases hv : av ss (r.ch, r.ln) with
   | none => rw [hv] at r1; simp only [Option.getD_none] at r1; omega
   | some v =>
    rw [hv] at r1 r2
    simp only [Option.getD_some] at r1 r2
    refine ⟨(c, k), (hks _).1 ?_, gKey_some.2 rfl⟩
    rw [show ((c, k) : L2) = v from Prod.ext (by simp only; omega) (by simp only; omega), (kp h.no).2 hv]
    simp
 ·rw [gKey_some] at hk
  subst hk
  obtain ⟨p, hp⟩ := Option.ne_none_iff_exists'.1 ((hks _).2 hq)
  have := l8 hok ((kp h.no).1 hp)
  simp only at this; omega
theorem ucv {t : af} {ss : List StretchD} (h : ∀ s ∈ ss, SOk s) (c : Int) : 0 ≤ i5 t ss c ∧ i5 t ss c ≤ 999 := by
 refine ⟨uk2 _ _, uk3 (by omega) fun r hr k hk => ?_⟩
 rw [gRow_some] at hk
 obtain ⟨r1, r2⟩ := w6 hr
 cases hv : av ss (r.ch, r.ln) with
 | none => rw [hv] at r2; simp only [Option.getD_none] at r2; omega
 | some v =>
  have := l8 h hv
  rw [hv] at r2
  simp only [Option.getD_some] at r2
  omega

/-! ### Lines that are moved -/
def pc (c l to mo : Int) (v : L2) : L2 := bif decide (v.1 = c) && decide (l ≤ v.2) then (to, v.2 + mo) else v
def ep (f : L2 → Option L2) (c l to mo : Int) : L2 → Option L2 := fun p => (f p).map (pc c l to mo)
theorem ub6 {ss : List StretchD} (he : ∀ s ∈ ss, SOk s) {c l to mo : Int} (hm : -2000 ≤ mo ∧ mo ≤ 2000) : ∀ p v, ep (av ss) c l to mo p = some v → -100000 ≤ v.2 ∧ v.2 ≤ 100000 := by
 intro p v hv
 unfold ep at hv
 cases hf : av ss p with
 | none => rw [hf] at hv; cases hv
 | some u =>
  have hp := l8 he hf
  rw [hf] at hv
  simp only [Option.map_some, Option.some.injEq] at hv
  subst hv
  unfold pc
  cases decide (u.1 = c) && decide (l ≤ u.2)
  ·show -100000 ≤ u.2 ∧ u.2 ≤ 100000; omega
  ·show -100000 ≤ u.2 + mo ∧ u.2 + mo ≤ 100000; omega
/-- some lines are moved, others not yet -/
def js (f g : L2 → Option L2) (done : List L2) : L2 → Option L2 := fun p => bif decide (p ∈ done) then g p else f p
theorem ukt (f g : L2 → Option L2) : js f g [] = f := by funext p; simp [js]
theorem uku {f g : L2 → Option L2} {done : List L2} (h : ∀ p, f p ≠ none → p ∈ done) (hg : ∀ p, f p = none → g p = none) : js f g done = g := by
 funext p
 unfold js
 cases hf : f p with
 | none =>
  rw [hg p hf]
  cases decide (p ∈ done) <;> rfl
 | some v => rw [decide_eq_true (h p (by rw [hf]; simp))]; rfl
theorem uks {f g : L2 → Option L2} {done : List L2} {y : L2} (h : y ∉ done) : js f g done y = f y := by simp [js, h]
theorem ukr {f g : L2 → Option L2} {done : List L2} {y v : L2} (hv : g y = some v) : (fun x => if x = y then some (o9 v) else a8 (js f g done) x) = a8 (js f g (done ++ [y])) := by
 funext x
 unfold a8 js
 by_cases hx : x = y
 ·subst hx; simp [hv]
 ·simp [hx]
theorem xv {f g : L2 → Option L2} {done : List L2} {y : L2} (hn : y ∉ done) (hv : g y = f y) : js f g (done ++ [y]) = js f g done := by
 funext x
 unfold js
 by_cases hx : x = y
 ·subst hx; simp [hv, hn]
 ·simp [hx]
def qr (ks done : List L2) : Nat := (ks.filter fun y => decide (y ∉ done)).length
theorem lw {ks done : List L2} {y : L2} (hy : y ∈ ks) (hn : y ∉ done) : qr ks (done ++ [y]) < qr ks done := by
 unfold qr
 have : (ks.filter fun z => decide (z ∉ done ++ [y])) = (ks.filter fun z => decide (z ∉ done)).filter fun z => decide (z ≠ y) := by
  rw [List.filter_filter]
  congr 1
  funext z
  simp [and_comm]
 rw [this]
 exact List.length_filter_lt_length_iff_exists.2 ⟨y, List.mem_filter.2 ⟨hy, by simpa using hn⟩, by simp⟩
theorem upq (f : L2 → Option L2) (y : L2) : (fun x => if x = y then none else a8 f x) = a8 fun x => if x = y then none else f x := by
 funext x
 unfold a8
 by_cases hx : x = y <;> simp [hx]

/-! ### Splitting and joining -/
def iw (L : List StretchD) : Int := bif decide (12 < L.length) then 9 else 0
def e9 (t : af) (e : aw) (c l to : Int) : List StretchD := fy (ep (av e.ss) c l to (1 - l)) (dn t)
def fa (t : af) (e : aw) (c to : Int) : List StretchD := fy (ep (av e.ss) c 1 to (i5 t e.ss to)) (dn t)
noncomputable def dx (t : af) (e : aw) (c l to : Int) : Int :=
 bif decide (cb t e = 0) then (bif jv 1 999 [c, l, to] then (bif decide (i5 t e.ss c < l) then 6 else (bif decide (c = to) || decide (0 < i5 t e.ss to) then 9 else iw (e9 t e c l to))) else 2) else cb t e
noncomputable def eb (t : af) (e : aw) (c to : Int) : Int :=
 bif decide (cb t e = 0) then (bif jv 1 999 [c, to] then (bif decide (i5 t e.ss c = 0) then 6 else (bif decide (c = to) || decide (999 < i5 t e.ss c + i5 t e.ss to) then 9 else iw (fa t e c to))) else 2) else cb t e
/-- .. the edition, if there is no error -/
noncomputable def cm (e : aw) (er : Int) (L : List StretchD) : aw := bif decide (er = 0) then ⟨e.id, L⟩ else ⟨0, []⟩
end Go.AB
