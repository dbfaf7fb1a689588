/-
 Charts in plain words: the last line of a chapter; lines that are moved.
-/
import Derived.Test.YtjjklfgpffgnfaaGreatDoorCxTells
namespace Go.AB
open Go Go.RowKit
open Go.PB (bv ai PlaceD cy c6 cz)
/-- the greatest of numbers; 0 if there is none -/
structure MaxOf (S : Int → Prop) (n : Int) : Prop where
 some : n = 0 ∨ S n
 all : ∀ k, S k → k ≤ n
theorem MaxOf.uniq {S S' : Int → Prop} {n m : Int} (h : MaxOf S n) (k : MaxOf S' m) (e : ∀ x, S x ↔ S' x) (hp : ∀ x, S x → 1 ≤ x) : n = m := by
 rcases h.some with h1 | h1
 ·rcases k.some with k1 | k1
  ·rw [h1, k1]
  ·have := h.all m ((e m).2 k1)
   have := hp m ((e m).2 k1)
   omega
 ·rcases k.some with k1 | k1
  ·have := k.all n ((e n).1 h1)
   have := hp n h1
   omega
  ·have := h.all m ((e m).2 k1)
   have := k.all n ((e n).1 h1)
   omega
def jy {α : Type} (g : α → Option Int) (n : Int) (x : α) : Int := match g x with
 | some k => max n k
 | none => n
def k6 {α : Type} (g : α → Option Int) (l : List α) : Int := l.foldl (jy g) 0
theorem uag {α : Type} (g : α → Option Int) (l : List α) (x : α) : k6 g (l ++ [x]) = jy g (k6 g l) x := by simp [k6]
theorem wt {α : Type} (g : α → Option Int) : ∀ (l : List α) (n : Int), (l.foldl (jy g) n = n ∨ ∃ x ∈ l, g x = some (l.foldl (jy g) n)) ∧ (∀ x ∈ l, ∀ k, g x = some k → k ≤ l.foldl (jy g) n) ∧ n ≤ l.foldl (jy g) n
 | [], n => ⟨.inl rfl, fun x hx => by simp at hx, Int.le_refl _⟩
 | y :: l, n => by
  rw [List.foldl_cons]
  obtain ⟨h1, h2, h3⟩ := wt g l (jy g n y)
  have hn : n ≤ jy g n y := by unfold jy; split <;> omega
  have hy : ∀ k, g y = some k → k ≤ jy g n y := fun k hk => by simp only [jy, hk]; omega
  refine ⟨?_, fun x hx k hk => ?_, by omega⟩
  ·rcases h1 with h1 | ⟨x, hx, hg⟩
   ·cases hg : g y with
    | none => left; rw [h1]; simp [jy, hg]
    | some k =>
     have he : jy g n y = max n k := by simp [jy, hg]
     by_cases hk : n ≤ k
     ·right; exact ⟨y, List.mem_cons_self .., by rw [h1, he, hg]; congr 1; omega⟩
     ·left; rw [h1, he]; omega
   ·exact .inr ⟨x, List.mem_cons_of_mem _ hx, hg⟩
  ·rcases List.mem_cons.1 hx with rfl | hx
   ·have := hy k hk; omega
   ·exact h2 x hx k hk
theorem vo {α : Type} (g : α → Option Int) (l : List α) : MaxOf (fun k => ∃ x ∈ l, g x = some k) (k6 g l) := by
 obtain ⟨h1, h2, _⟩ := wt g l 0
 exact ⟨h1, fun k ⟨x, hx, hk⟩ => h2 x hx k hk⟩
theorem uhf {α : Type} (g : α → Option Int) (l : List α) : 0 ≤ k6 g l := (wt g l 0).2.2
theorem uhg {α : Type} {g : α → Option Int} {l : List α} {b : Int} (hb : 0 ≤ b) (h : ∀ x ∈ l, ∀ k, g x = some k → k ≤ b) : k6 g l ≤ b := by
 rcases (vo g l).some with h1 | ⟨x, hx, h1⟩
 ·omega
 ·exact h x hx _ h1
def me (c : Int) (q : L2) : Option Int := bif decide (q.1 = c) then some q.2 else none
def gRow (c : Int) (r : nr) : Option Int := bif decide (r.au = c) && decide (0 < c) then some r.nu else none
theorem gKey_some {c k : Int} {q : L2} : me c q = some k ↔ q = (c, k) := by
 obtain ⟨a, b⟩ := q
 unfold me
 by_cases h : a = c <;> simp [h]
theorem gRow_some {c k : Int} {r : nr} : gRow c r = some k ↔ (r.au = c ∧ 0 < c) ∧ r.nu = k := by
 unfold gRow
 by_cases h : r.au = c
 ·by_cases h2 : 0 < c
  ·simp [h, h2]
  ·simp [h, h2]
 ·simp [h]
/-- the number of the last line of a chapter -/
def i4 (t : ai) (ss : List StretchD) (c : Int) : Int := k6 (gRow c) (ja t ss)

/-! ### Lines and numbers of a sound edition -/
structure Sound (t : ai) (ss : List StretchD) : Prop where
 tx : ct t = true
 len : ss.length ≤ 12
 str : ∀ s ∈ ss, g9 t s = true
 no : ef ss = none
theorem mn {t : ai} {e : av} (h : bz t e = 0) : Sound t e.ss := by
 obtain ⟨h0, hf⟩ := lg h
 obtain ⟨h1, h2⟩ := tz h0
 simp only [i5, Bool.and_eq_true, decide_eq_true_eq, List.all_eq_true] at h2
 exact ⟨h1, h2.2.1, h2.2.2, hf⟩
theorem Sound.ok {t : ai} {ss : List StretchD} (h : Sound t ss) : ∀ s ∈ ss, SOk s := fun s hs => yl h.tx (h.str s hs)
theorem uhs {p : Nat → Prop} (h : ∃ n, p n) : ∃ n, p n ∧ ∀ m, m < n → ¬ p m := by
 obtain ⟨n, hn⟩ := h
 induction n using Nat.strongRecOn with
 | _ n ih =>
  by_cases hx : ∃ m, m < n ∧ p m
  ·obtain ⟨m, h1, h2⟩ := hx
   exact ih m h1 h2
  ·exact ⟨n, hn, fun m hm hp => hx ⟨m, hm, hp⟩⟩
theorem wy {ss : List StretchD} (h : ef ss = none) : ∀ a b, ¬ jh ss a b := by
 unfold ef at h
 split at h
 ·rename_i hx
  have h2 := Exists.choose_spec hx
  rw [h] at h2
  exact h2
 ·rename_i hx
  by_cases hc : ∃ a b, jh ss a b
  ·exfalso
   classical
   obtain ⟨a, b, hab⟩ := hc
   -- the first one
   have hex : ∃ n, ∃ a b, jh ss a b ∧ a * (ss.length + 1) + b = n := ⟨_, a, b, hab, rfl⟩
   obtain ⟨n0, ⟨c, d, hcd, hn⟩, hmin⟩ := uhs hex
   rw [← hn] at hmin
   refine hx ⟨some (c, d), hcd, fun x y hxy => ?_⟩
   rcases Nat.lt_trichotomy c x with h1 | h1 | h1
   ·exact .inl h1
   ·subst h1
    refine .inr ⟨rfl, ?_⟩
    by_cases h2 : d ≤ y
    ·exact h2
    ·exact absurd ⟨c, y, hxy, rfl⟩ (hmin (c * (ss.length + 1) + y) (by show _ < c * (ss.length + 1) + d; omega))
   ·have hy : y < ss.length := by
     obtain ⟨_, _, _, _, hy, _⟩ := hxy
     exact (List.getElem?_eq_some_iff.1 hy).1
    refine absurd ⟨x, y, hxy, rfl⟩ (hmin (x * (ss.length + 1) + y) ?_)
    have : (x + 1) * (ss.length + 1) ≤ c * (ss.length + 1) := Nat.mul_le_mul_right _ h1
    rw [Nat.add_mul, Nat.one_mul] at this
    show _ < c * (ss.length + 1) + d
    omega
  ·exact fun a b hab => hc ⟨a, b, hab⟩
theorem uci {s u : StretchD} {p : L2} (hs : i9 s p = true) (hu : i9 u p = true) : i1 s u = true := by
 rw [nj] at hs hu
 unfold i1 k0
 simp only [Bool.or_eq_true, Bool.and_eq_true, decide_eq_true_eq]
 left; omega
theorem uch {s u : StretchD} {q : L2} (hs : jd s q = true) (hu : jd u q = true) : i1 s u = true := by
 rw [oz] at hs hu
 unfold i1 k0
 simp only [Bool.or_eq_true, Bool.and_eq_true, decide_eq_true_eq]
 right; omega
theorem zm {ss : List StretchD} (h : ef ss = none) {s u : StretchD} (hs : s ∈ ss) (hu : u ∈ ss) (hc : i1 s u = true) (hc' : i1 u s = true) : s = u := by
 obtain ⟨i, hi⟩ := List.getElem?_of_mem hs
 obtain ⟨j, hj⟩ := List.getElem?_of_mem hu
 rcases Nat.lt_trichotomy i j with h1 | h1 | h1
 ·exact absurd ⟨h1, s, u, hi, hj, hc⟩ (wy h i j)
 ·subst h1; rw [hi] at hj; cases hj; rfl
 ·exact absurd ⟨h1, u, s, hj, hi, hc'⟩ (wy h j i)
theorem uir {s : StretchD} {p : L2} (h : i9 s p = true) : jd s (toE s p) = true := by
 rw [nj] at h
 rw [oz]
 refine ⟨rfl, ?_, ?_⟩ <;> (simp only [toE]; omega)
theorem uit {s : StretchD} {q : L2} (h : jd s q = true) : i9 s (toB s q) = true := by
 rw [oz] at h
 rw [nj]
 refine ⟨rfl, ?_, ?_⟩ <;> (simp only [toB]; omega)
theorem uea {s : StretchD} {p : L2} (h : i9 s p = true) : toB s (toE s p) = p := by
 rw [nj] at h
 obtain ⟨a, b⟩ := p
 simp only [toB, toE, Prod.mk.injEq]; simp only at h; omega
theorem ud9 {s : StretchD} {q : L2} (h : jd s q = true) : toE s (toB s q) = q := by
 rw [oz] at h
 obtain ⟨a, b⟩ := q
 simp only [toB, toE, Prod.mk.injEq]; simp only at h; omega
theorem uc9 {ss : List StretchD} (h : ef ss = none) {p v : L2} : ax ss p = some v ↔ ∃ s ∈ ss, i9 s p = true ∧ toE s p = v := by
 unfold ax
 constructor
 ·intro hv
  cases hf : ss.find? fun s => i9 s p with
  | none => rw [hf] at hv; cases hv
  | some s =>
   rw [hf] at hv
   simp only [Option.map_some, Option.some.injEq] at hv
   exact ⟨s, List.mem_of_find?_eq_some hf, List.find?_some (p := fun s => i9 s p) hf, hv⟩
 ·rintro ⟨s, hs, hb, rfl⟩
  cases hf : ss.find? fun s => i9 s p with
  | none => rw [List.find?_eq_none] at hf; exact absurd hb (hf s hs)
  | some u =>
   have h1 := List.find?_some (p := fun s => i9 s p) hf
   rw [zm h hs (List.mem_of_find?_eq_some hf) (uci hb h1) (uci h1 hb)]
   rfl
theorem ul4 {ss : List StretchD} (h : ef ss = none) {p v : L2} : cn ss v = some p ↔ ∃ s ∈ ss, jd s v = true ∧ toB s v = p := by
 unfold cn
 constructor
 ·intro hv
  cases hf : ss.find? fun s => jd s v with
  | none => rw [hf] at hv; cases hv
  | some s =>
   rw [hf] at hv
   simp only [Option.map_some, Option.some.injEq] at hv
   exact ⟨s, List.mem_of_find?_eq_some hf, List.find?_some (p := fun s => jd s v) hf, hv⟩
 ·rintro ⟨s, hs, hb, rfl⟩
  cases hf : ss.find? fun s => jd s v with
  | none => rw [List.find?_eq_none] at hf; exact absurd hb (hf s hs)
  | some u =>
   have h1 := List.find?_some (p := fun s => jd s v) hf
   rw [zm h hs (List.mem_of_find?_eq_some hf) (uch hb h1) (uch h1 hb)]
   rfl
/-- back and forth -/
theorem kd {ss : List StretchD} (h : ef ss = none) {p v : L2} : cn ss v = some p ↔ ax ss p = some v := by
 rw [ul4 h, uc9 h]
 constructor
 ·rintro ⟨s, hs, hb, rfl⟩
  exact ⟨s, hs, uit hb, ud9 hb⟩
 ·rintro ⟨s, hs, hb, rfl⟩
  exact ⟨s, hs, uir hb, uea hb⟩
theorem uc8 {t : ai} {ss : List StretchD} (h : Sound t ss) {p v : L2} (hv : ax ss p = some v) : ∃ r ∈ ja t ss, (r.ch, r.ln) = p ∧ (r.au, r.nu) = v := by
 obtain ⟨s, hs, hb, rfl⟩ := (uc9 h.no).1 hv
 have h1 := h.str s hs
 have h2 := h.ok s hs
 rw [nj] at hb
 simp only [g9, sB1, sB2, Bool.and_eq_true, inB_true] at h1
 obtain ⟨c, hc⟩ : ∃ c, t[p.1.toNat]? = some c := ⟨_, List.getElem?_eq_getElem (by omega)⟩
 have hn := ve (t := t) (c := s.ch) (k := p.1.toNat) (by omega) hc
 obtain ⟨l, hl⟩ : ∃ l, c.lines[p.2.toNat]? = some l := ⟨_, List.getElem?_eq_getElem (by have := h2.fr; omega)⟩
 have hp : (((p.1.toNat : Nat) : Int), ((p.2.toNat : Nat) : Int)) = p := Prod.ext (by simp only; omega) (by simp only; have := h2.fr; omega)
 refine ⟨qt ss (((p.1.toNat : Nat) : Int), ((p.2.toNat : Nat) : Int)) l.length, ?_, ?_, ?_⟩
 ·unfold ja
  refine List.mem_flatten.2 ⟨_, List.mem_of_getElem? (i := p.1.toNat) (by rw [List.getElem?_mapIdx, hc]; rfl), ?_⟩
  exact List.mem_of_getElem? (i := p.2.toNat) (by rw [List.getElem?_mapIdx, hl]; rfl)
 ·exact hp
 ·unfold qt
  simp only
  rw [hp, hv]
  rfl
/-- the last line of a chapter, as the program finds it -/
theorem uh3 {t : ai} {ss : List StretchD} (h : Sound t ss) {ks : List L2} (hks : ∀ x, cn ss x ≠ none ↔ x ∈ ks) (c : Int) : k6 (me c) ks = i4 t ss c := by
 have hok := h.ok
 refine (vo (me c) ks).uniq (vo (gRow c) (ja t ss)) (fun k => ?_) (fun k ⟨q, hq, hk⟩ => ?_)
 ·constructor
  ·rintro ⟨q, hq, hk⟩
   rw [gKey_some] at hk
   subst hk
   obtain ⟨p, hp⟩ := Option.ne_none_iff_exists'.1 ((hks _).2 hq)
   have hv := (kd h.no).1 hp
   have hpos := l3 hok hv
   obtain ⟨r, hr, h1, h2⟩ := uc8 h hv
   cases h2
   exact ⟨r, hr, gRow_some.2 ⟨⟨rfl, by simp only at hpos; omega⟩, rfl⟩⟩
  ·rintro ⟨r, hr, hk⟩
   rw [gRow_some] at hk
   obtain ⟨⟨h1, h2⟩, h3⟩ := hk
   obtain ⟨r1, r2⟩ := u3 hr
   cases hv : ax ss (r.ch, r.ln) with
   | none => rw [hv] at r1; simp only [Option.getD_none] at r1; omega
   | some v =>
    rw [hv] at r1 r2
    simp only [Option.getD_some] at r1 r2
    refine ⟨(c, k), (hks _).1 ?_, gKey_some.2 rfl⟩
    rw [show ((c, k) : L2) = v from Prod.ext (by simp only; omega) (by simp only; omega), (kd h.no).2 hv]
    simp
 ·rw [gKey_some] at hk
  subst hk
  obtain ⟨p, hp⟩ := Option.ne_none_iff_exists'.1 ((hks _).2 hq)
  have := l3 hok ((kd h.no).1 hp)
  simp only at this; omega
theorem ua0 {t : ai} {ss : List StretchD} (h : ∀ s ∈ ss, SOk s) (c : Int) : 0 ≤ i4 t ss c ∧ i4 t ss c ≤ 999 := by
 refine ⟨uhf _ _, uhg (by omega) fun r hr k hk => ?_⟩
 rw [gRow_some] at hk
 obtain ⟨r1, r2⟩ := u3 hr
 cases hv : ax ss (r.ch, r.ln) with
 | none => rw [hv] at r2; simp only [Option.getD_none] at r2; omega
 | some v =>
  have := l3 h hv
  rw [hv] at r2
  simp only [Option.getD_some] at r2
  omega

/-! ### Lines that are moved -/
def ot (c l to mo : Int) (v : L2) : L2 := bif decide (v.1 = c) && decide (l ≤ v.2) then (to, v.2 + mo) else v
def fh (f : L2 → Option L2) (c l to mo : Int) : L2 → Option L2 := fun p => (f p).map (ot c l to mo)
theorem uaf {ss : List StretchD} (he : ∀ s ∈ ss, SOk s) {c l to mo : Int} (hm : -2000 ≤ mo ∧ mo ≤ 2000) : ∀ p v, fh (ax ss) c l to mo p = some v → -100000 ≤ v.2 ∧ v.2 ≤ 100000 := by
 intro p v hv
 unfold fh at hv
 cases hf : ax ss p with
 | none => rw [hf] at hv; cases hv
 | some u =>
  have hp := l3 he hf
  rw [hf] at hv
  simp only [Option.map_some, Option.some.injEq] at hv
  subst hv
  unfold ot
  cases decide (u.1 = c) && decide (l ≤ u.2)
  ·show -100000 ≤ u.2 ∧ u.2 ≤ 100000; omega
  ·show -100000 ≤ u.2 + mo ∧ u.2 + mo ≤ 100000; omega
/-- some lines are moved, others not yet -/
def jn (f g : L2 → Option L2) (done : List L2) : L2 → Option L2 := fun p => bif decide (p ∈ done) then g p else f p
theorem ug6 (f g : L2 → Option L2) : jn f g [] = f := by funext p; simp [jn]
theorem ug7 {f g : L2 → Option L2} {done : List L2} (h : ∀ p, f p ≠ none → p ∈ done) (hg : ∀ p, f p = none → g p = none) : jn f g done = g := by
 funext p
 unfold jn
 cases hf : f p with
 | none =>
  rw [hg p hf]
  cases decide (p ∈ done) <;> rfl
 | some v => rw [decide_eq_true (h p (by rw [hf]; simp))]; rfl
theorem ug5 {f g : L2 → Option L2} {done : List L2} {y : L2} (h : y ∉ done) : jn f g done y = f y := by simp [jn, h]
theorem ug4 {f g : L2 → Option L2} {done : List L2} {y v : L2} (hv : g y = some v) : (fun x => if x = y then some (oh v) else az (jn f g done) x) = az (jn f g (done ++ [y])) := by
 funext x
 unfold az jn
 by_cases hx : x = y
 ·subst hx; simp [hv]
 ·simp [hx]
theorem vn {f g : L2 → Option L2} {done : List L2} {y : L2} (hn : y ∉ done) (hv : g y = f y) : jn f g (done ++ [y]) = jn f g done := by
 funext x
 unfold jn
 by_cases hx : x = y
 ·subst hx; simp [hv, hn]
 ·simp [hx]
def p4 (ks done : List L2) : Nat := (ks.filter fun y => decide (y ∉ done)).length
theorem lj {ks done : List L2} {y : L2} (hy : y ∈ ks) (hn : y ∉ done) : p4 ks (done ++ [y]) < p4 ks done := by
 unfold p4
 have : (ks.filter fun z => decide (z ∉ done ++ [y])) = (ks.filter fun z => decide (z ∉ done)).filter fun z => decide (z ≠ y) := by
  rw [List.filter_filter]
  congr 1
  funext z
  simp [and_comm]
 rw [this]
 exact List.length_filter_lt_length_iff_exists.2 ⟨y, List.mem_filter.2 ⟨hy, by simpa using hn⟩, by simp⟩
theorem uls (f : L2 → Option L2) (y : L2) : (fun x => if x = y then none else az f x) = az fun x => if x = y then none else f x := by
 funext x
 unfold az
 by_cases hx : x = y <;> simp [hx]

/-! ### Splitting and joining -/
def iy (L : List StretchD) : Int := bif decide (12 < L.length) then 9 else 0
def fm (t : ai) (e : av) (c l to : Int) : List StretchD := gd (fh (ax e.ss) c l to (1 - l)) (d9 t)
def fo (t : ai) (e : av) (c to : Int) : List StretchD := gd (fh (ax e.ss) c 1 to (i4 t e.ss to)) (d9 t)
noncomputable def eh (t : ai) (e : av) (c l to : Int) : Int :=
 bif decide (bz t e = 0) then (bif jp 1 999 [c, l, to] then (bif decide (i4 t e.ss c < l) then 6 else (bif decide (c = to) || decide (0 < i4 t e.ss to) then 9 else iy (fm t e c l to))) else 2) else bz t e
noncomputable def el (t : ai) (e : av) (c to : Int) : Int :=
 bif decide (bz t e = 0) then (bif jp 1 999 [c, to] then (bif decide (i4 t e.ss c = 0) then 6 else (bif decide (c = to) || decide (999 < i4 t e.ss c + i4 t e.ss to) then 9 else iy (fo t e c to))) else 2) else bz t e
/-- .. the edition, if there is no error -/
noncomputable def ci (e : av) (er : Int) (L : List StretchD) : av := bif decide (er = 0) then ⟨e.id, L⟩ else ⟨0, []⟩
end Go.AB
