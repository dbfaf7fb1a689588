/-
  What the walks through the program rest on: values, states, steps, calls (PaFlow, PbData, PcWorst, PdPlain, PeSets, PfPlain, PgSides, PhApart, PiWhy, PjWhy, PsExamples, PpAdd, PlTruth, PqRest, AbTwin, AbCut, RaStd, OpenE, AbRem, AbBits, QaRef, QbRef, QcRef, RbSides, QdRef, QeRef, KxBefore, QfRef, QgRef, QhRef, QiRef, QjRef, QkRef, PmMore, QlPlain, AbZero, AbGrow, AbCutN, QmRef, RhProves, AbInv, AbMixD, AbInvD, RcAny, AbNew, AbEntry, HdKeys).
-/
import Derived.Lib.Hide
import Derived.Test.YtbbdginipiljdaaDoorPartB
import Derived.Shelf.SlicesE.DeleteFunc
import Derived.Deep.Slices
import Derived.Lib.SmallJoins
import Derived.Carry
import Derived.ProofKit
import Derived.OpenShut
import Derived.WideKeyEntry
namespace Go.AB
/-- a sum -/
def sm : Nat → (Nat → Int) → Int
 | 0, _ => 0
 | n + 1, g => sm n g + g n
theorem rr : ∀ {n : Nat} {g h : Nat → Int}, (∀ i, i < n → g i ≤ h i) → sm n g ≤ sm n h
 | 0, _, _, _ => Int.le_refl _
 | n + 1, g, h, H => by
  have h1 := rr (n := n) fun i hi => H i (by omega)
  have h2 := H n (by omega)
  simp only [sm]; omega
theorem mz : ∀ {n : Nat} {g h : Nat → Int}, (∀ i, i < n → g i = h i) → sm n g = sm n h
 | 0, _, _, _ => rfl
 | n + 1, g, h, H => by
  have h1 := mz (n := n) fun i hi => H i (by omega)
  have h2 := H n (by omega)
  simp only [sm]; omega
theorem qa : ∀ (n : Nat) (g h : Nat → Int), sm n (fun i => g i + h i) = sm n g + sm n h
 | 0, _, _ => rfl
 | n + 1, g, h => by have := qa n g h; simp only [sm]; omega
theorem rp : ∀ (n : Nat) (g h : Nat → Int), sm n (fun i => g i - h i) = sm n g - sm n h
 | 0, _, _ => rfl
 | n + 1, g, h => by have := rp n g h; simp only [sm]; omega
theorem uf : ∀ n : Nat, sm n (fun _ => 0) = 0
 | 0 => rfl
 | n + 1 => by have := uf n; simp only [sm]; omega
theorem ugm {n : Nat} {g : Nat → Int} (H : ∀ i, i < n → 0 ≤ g i) : 0 ≤ sm n g := by
 have := rr (g := fun _ => 0) H
 rwa [uf] at this
theorem rq : ∀ {n k : Nat} (_ : k < n) (v : Int), sm n (fun i => bif decide (i = k) then v else 0) = v
 | 0, _, h, _ => absurd h (Nat.not_lt_zero _)
 | n + 1, k, h, v => by
  simp only [sm]
  by_cases e : n = k
  ·subst e
   rw [mz (h := fun _ => 0) (fun i hi => by rw [decide_eq_false (by omega)]; rfl), uf, decide_eq_true rfl]
   simp
  ·rw [rq (n := n) (by omega) v, decide_eq_false e]
   simp
/-- pages, each with a first and a second reader, or one of them, or none -/
structure Net where
 nF : Nat
 nr : Nat
 np : Nat
 fr : Nat → Option Nat
 sc : Nat → Option Nat
structure Net.Ok (N : Net) : Prop where
 le : N.nF ≤ N.nr
 fr : ∀ j i, N.fr j = some i → i < N.nF
 sc : ∀ j i, N.sc j = some i → N.nF ≤ i ∧ i < N.nr
def ob (S : Nat → Bool) : Option Nat → Bool
 | none => false
 | some i => S i
def Net.hit (N : Net) (S : Nat → Bool) (j : Nat) : Bool := ob S (N.fr j) || ob S (N.sc j)
/-- who reads a page -/
def Net.by (N : Net) (j i : Nat) : Bool := decide (N.fr j = some i) || decide (N.sc j = some i)
/-- what a set of readers proves -/
def Net.f (N : Net) (R C : Nat → Int) (S : Nat → Bool) : Int := sm N.nr (fun i => bif S i then R i else 0) + sm N.np (fun j => bif N.hit S j then 0 else C j)
section
variable {N : Net} {R C : Nat → Int}
theorem Net.Ok.by_lt (h : N.Ok) {j i : Nat} (hb : N.by j i = true) : i < N.nr := by
 simp only [Net.by, Bool.or_eq_true, decide_eq_true_eq] at hb
 rcases hb with e | e
 ·have := h.fr j i e; have := h.le; omega
 ·exact (h.sc j i e).2
theorem Net.hit_iff {S : Nat → Bool} {j : Nat} : N.hit S j = true ↔ ∃ i, N.by j i = true ∧ S i = true := by
 unfold Net.hit Net.by
 constructor
 ·intro h
  rw [Bool.or_eq_true] at h
  rcases h with h | h
  ·cases e : N.fr j with
   | none => rw [e] at h; cases h
   | some i => rw [e] at h; exact ⟨i, by simp, h⟩
  ·cases e : N.sc j with
   | none => rw [e] at h; cases h
   | some i => rw [e] at h; exact ⟨i, by simp, h⟩
 ·rintro ⟨i, h1, h2⟩
  simp only [Bool.or_eq_true, decide_eq_true_eq] at h1 ⊢
  rcases h1 with e | e
  ·rw [e]; exact .inl h2
  ·rw [e]; exact .inr h2
theorem Net.f_congr (hN : N.Ok) {S S' : Nat → Bool} (h : ∀ i, i < N.nr → S i = S' i) : N.f R C S = N.f R C S' := by
 have h2 : ∀ j, N.hit S j = N.hit S' j := fun j => by
  rw [Bool.eq_iff_iff, Net.hit_iff, Net.hit_iff]
  exact ⟨fun ⟨i, q1, q2⟩ => ⟨i, q1, (h i (hN.by_lt q1)) ▸ q2⟩, fun ⟨i, q1, q2⟩ => ⟨i, q1, (h i (hN.by_lt q1)).symm ▸ q2⟩⟩
 have e1 : sm N.nr (fun i => bif S i then R i else 0) = sm N.nr (fun i => bif S' i then R i else 0) := mz fun i hi => by rw [h i hi]
 have e2 : sm N.np (fun j => bif N.hit S j then 0 else C j) = sm N.np (fun j => bif N.hit S' j then 0 else C j) := mz fun j _ => by rw [h2 j]
 unfold Net.f
 rw [e1, e2]
/-- two sets of readers, crossed -/
def l4 (nF : Nat) (S T : Nat → Bool) (i : Nat) : Bool := bif decide (i < nF) then S i || T i else S i && T i
def l3 (nF : Nat) (S T : Nat → Bool) (i : Nat) : Bool := bif decide (i < nF) then S i && T i else S i || T i
theorem Net.cross (hN : N.Ok) (hC : ∀ j, j < N.np → 0 ≤ C j) (S T : Nat → Bool) : N.f R C (l4 N.nF S T) + N.f R C (l3 N.nF S T) ≤ N.f R C S + N.f R C T := by
 have h1 : sm N.nr (fun i => bif l4 N.nF S T i then R i else 0) + sm N.nr (fun i => bif l3 N.nF S T i then R i else 0) = sm N.nr (fun i => bif S i then R i else 0) + sm N.nr (fun i => bif T i then R i else 0) := by
  rw [← qa, ← qa]
  refine mz fun i _ => ?_
  unfold l4 l3
  cases decide (i < N.nF) <;> cases S i <;> cases T i <;> simp
 have h2 : sm N.np (fun j => bif N.hit (l4 N.nF S T) j then 0 else C j) + sm N.np (fun j => bif N.hit (l3 N.nF S T) j then 0 else C j) ≤ sm N.np (fun j => bif N.hit S j then 0 else C j) + sm N.np (fun j => bif N.hit T j then 0 else C j) := by
  rw [← qa, ← qa]
  refine rr fun j hj => ?_
  have hc := hC j hj
  have e1 : ∀ U V : Nat → Bool, ob (l4 N.nF U V) (N.fr j) = (ob U (N.fr j) || ob V (N.fr j)) := fun U V => by
   cases e : N.fr j with
   | none => rfl
   | some i => simp only [ob, l4, decide_eq_true (hN.fr j i e), cond_true]
  have e2 : ∀ U V : Nat → Bool, ob (l3 N.nF U V) (N.fr j) = (ob U (N.fr j) && ob V (N.fr j)) := fun U V => by
   cases e : N.fr j with
   | none => rfl
   | some i => simp only [ob, l3, decide_eq_true (hN.fr j i e), cond_true]
  have e3 : ∀ U V : Nat → Bool, ob (l4 N.nF U V) (N.sc j) = (ob U (N.sc j) && ob V (N.sc j)) := fun U V => by
   cases e : N.sc j with
   | none => rfl
   | some i => have := hN.sc j i e; simp only [ob, l4, decide_eq_false (show ¬ i < N.nF by omega), cond_false]
  have e4 : ∀ U V : Nat → Bool, ob (l3 N.nF U V) (N.sc j) = (ob U (N.sc j) || ob V (N.sc j)) := fun U V => by
   cases e : N.sc j with
   | none => rfl
   | some i => have := hN.sc j i e; simp only [ob, l3, decide_eq_false (show ¬ i < N.nF by omega), cond_false]
  simp only [Net.hit, e1, e2, e3, e4]
  cases ob S (N.fr j) <;> cases ob T (N.fr j) <;> cases ob S (N.sc j) <;> cases ob T (N.sc j) <;> simp <;> omega
 unfold Net.f
 omega
/-- so much less for the readers of a page, and nothing more on it -/
def Net.lessR (N : Net) (R : Nat → Int) (j : Nat) (n : Int) (i : Nat) : Int := bif N.by j i then R i - n else R i
def dw (C : Nat → Int) (j k : Nat) : Int := bif decide (k = j) then 0 else C k
def cnt (S : Nat → Bool) (o : Option Nat) (n : Int) : Int := bif ob S o then n else 0
theorem Net.f_less (hN : N.Ok) {j : Nat} (hj : j < N.np) (n : Int) (S : Nat → Bool) : N.f (N.lessR R j n) (dw C j) S = N.f R C S - cnt S (N.fr j) n - cnt S (N.sc j) n - (bif N.hit S j then 0 else C j) := by
 have h1 : sm N.np (fun k => bif N.hit S k then 0 else dw C j k) = sm N.np (fun k => bif N.hit S k then 0 else C k) - (bif N.hit S j then 0 else C j) := by
  have := rq hj (bif N.hit S j then 0 else C j)
  rw [← this, ← rp]
  refine mz fun k _ => ?_
  by_cases e : k = j
  ·subst e; simp [dw]
  ·simp [dw, e]
 have h2 : ∀ o : Option Nat, (∀ i, o = some i → i < N.nr) → sm N.nr (fun i => bif decide (o = some i) then (bif S i then n else 0) else 0) = cnt S o n := fun o ho => by
  cases o with
  | none => simp only [cnt, ob, cond_false]; rw [mz (h := fun _ => 0) (fun i _ => by simp), uf]
  | some k =>
   have := rq (ho k rfl) (bif S k then n else 0)
   rw [mz (h := fun i => bif decide (i = k) then (bif S k then n else 0) else 0)]
   ·exact this
   ·intro i _
    by_cases e : i = k
    ·subst e; simp
    ·simp [e, Ne.symm e]
 have h3 : sm N.nr (fun i => bif S i then N.lessR R j n i else 0) = sm N.nr (fun i => bif S i then R i else 0) - cnt S (N.fr j) n - cnt S (N.sc j) n := by
  rw [← h2 (N.fr j) (fun i e => by have := hN.fr j i e; have := hN.le; omega), ← h2 (N.sc j) (fun i e => (hN.sc j i e).2), ← rp, ← rp]
  refine mz fun i _ => ?_
  unfold Net.lessR Net.by
  have hx : ¬ (N.fr j = some i ∧ N.sc j = some i) := fun ⟨q1, q2⟩ => by have := hN.fr j i q1; have := (hN.sc j i q2).1; omega
  by_cases q1 : N.fr j = some i
  ·have q2 : ¬ N.sc j = some i := fun q2 => hx ⟨q1, q2⟩
   cases S i <;> simp [q1, q2]
  ·by_cases q2 : N.sc j = some i
   ·cases S i <;> simp [q1, q2]
   ·cases S i <;> simp [q1, q2]
 unfold Net.f
 rw [h1, h3]
 omega
/-- the least of some numbers, as it is looked for -/
def lf (g : Nat → Int) : Nat → Int
 | 0 => g 0
 | k + 1 => min (lf g k) (g k)
theorem ub4 {g : Nat → Int} : ∀ {k s : Nat}, s < k ∨ s = 0 → lf g k ≤ g s
 | 0, s, h => by
  obtain rfl : s = 0 := by omega
  exact Int.le_refl _
 | k + 1, s, h => by
  by_cases e : s = k
  ·subst e; exact Int.min_le_right _ _
  ·have := ub4 (g := g) (k := k) (s := s) (by omega)
   exact Int.le_trans (Int.min_le_left _ _) this
theorem xz {g : Nat → Int} : ∀ k : Nat, ∃ s, (s < k ∨ s = 0) ∧ lf g k = g s
 | 0 => ⟨0, .inr rfl, rfl⟩
 | k + 1 => by
  obtain ⟨s, h1, h2⟩ := xz (g := g) k
  by_cases e : lf g k ≤ g k
  ·exact ⟨s, by omega, by rw [lf, Int.min_eq_left e, h2]⟩
  ·exact ⟨k, by omega, by rw [lf, Int.min_eq_right (by omega)]⟩
/-- a set as a number -/
def ov (S : Nat → Bool) : Nat → Nat
 | 0 => 0
 | n + 1 => ov S n ||| (bif S n then 2 ^ n else 0)
theorem ud8 (S : Nat → Bool) : ∀ n, ov S n < 2 ^ n
 | 0 => by simp [ov]
 | n + 1 => by
  have h := ud8 S n
  have h2 : 2 ^ n < 2 ^ (n + 1) := Nat.pow_lt_pow_right (by omega) (by omega)
  unfold ov
  refine Nat.or_lt_two_pow (by omega) ?_
  cases S n
  ·exact Nat.two_pow_pos _
  ·exact h2
theorem ud9 (S : Nat → Bool) : ∀ n i, (ov S n).testBit i = (decide (i < n) && S i)
 | 0, i => by simp [ov]
 | n + 1, i => by
  have h := ud9 S n i
  unfold ov
  rw [Nat.testBit_or, h]
  by_cases e : i = n
  ·subst e
   cases hS : S i <;> simp
  ·have e2 : decide (i < n + 1) = decide (i < n) := by rw [decide_eq_decide]; omega
   rw [e2]
   cases hS : S n
   ·simp
   ·simp only [cond_true, Nat.testBit_two_pow]
    rw [decide_eq_false (Ne.symm e), Bool.or_false]
def Net.most (N : Net) (R C : Nat → Int) : Int := lf (fun s => N.f R C fun i => s.testBit i) (2 ^ N.nr)
theorem Net.most_le (hN : N.Ok) (S : Nat → Bool) : N.most R C ≤ N.f R C S := by
 have h := ub4 (g := fun s => N.f R C fun i => s.testBit i) (k := 2 ^ N.nr) (s := ov S N.nr) (.inl (ud8 S _))
 refine Int.le_trans h (Int.le_of_eq (Net.f_congr hN fun i hi => ?_))
 rw [ud9, decide_eq_true hi, Bool.true_and]
theorem Net.most_get (N : Net) (R C : Nat → Int) : ∃ S : Nat → Bool, N.most R C = N.f R C S := by
 obtain ⟨s, _, h⟩ := xz (g := fun s => N.f R C fun i => s.testBit i) (2 ^ N.nr)
 exact ⟨fun i => s.testBit i, h⟩
def na (n : Int) (R : Nat → Int) : Option Nat → Int
 | none => n
 | some i => min n (R i)
/-- the most on one page -/
def Net.alone (N : Net) (R C : Nat → Int) (j : Nat) : Int := na (na (C j) R (N.fr j)) R (N.sc j)
theorem ub3 {n m : Int} {o : Option Nat} : m ≤ na n R o ↔ m ≤ n ∧ ∀ i, o = some i → m ≤ R i := by
 cases o with
 | none => simp [na]
 | some k => simp only [na, Int.le_min, Option.some.injEq, forall_eq']
theorem Net.le_alone {j : Nat} {m : Int} : m ≤ N.alone R C j ↔ m ≤ C j ∧ ∀ i, N.by j i = true → m ≤ R i := by
 unfold Net.alone Net.by
 rw [ub3, ub3]
 simp only [Bool.or_eq_true, decide_eq_true_eq]
 exact ⟨fun ⟨⟨h1, h2⟩, h3⟩ => ⟨h1, fun i hi => hi.elim (h2 i) (h3 i)⟩, fun ⟨h1, h2⟩ => ⟨⟨h1, fun i hi => h2 i (.inl hi)⟩, fun i hi => h2 i (.inr hi)⟩⟩
/-- what remains, and so much less of it -/
theorem Net.less_le (hN : N.Ok) {j : Nat} (hj : j < N.np) {n : Int} (h0 : 0 ≤ n) (hn : n ≤ C j) : n + N.most (N.lessR R j n) (dw C j) ≤ N.most R C := by
 obtain ⟨S, hS⟩ := N.most_get R C
 have h1 := Net.most_le (R := N.lessR R j n) (C := dw C j) hN S
 rw [Net.f_less hN hj] at h1
 rw [hS]
 cases e : N.hit S j
 ·rw [e] at h1
  have e2 := e
  unfold Net.hit at e2
  rw [Bool.or_eq_false_iff] at e2
  simp only [cnt, e2.1, e2.2, cond_false] at h1
  omega
 ·rw [e] at h1
  unfold Net.hit at e
  rw [Bool.or_eq_true] at e
  unfold cnt at h1
  rcases e with q | q
  ·rw [q] at h1
   cases e2 : ob S (N.sc j) <;> rw [e2] at h1 <;> simp only [cond_true, cond_false] at h1 <;> omega
  ·rw [q] at h1
   cases e2 : ob S (N.fr j) <;> rw [e2] at h1 <;> simp only [cond_true, cond_false] at h1 <;> omega
/-- of each page there is a worst number of errors -/
theorem Net.greedy (hN : N.Ok) (hR : ∀ i, i < N.nr → 0 ≤ R i) (hC : ∀ j, j < N.np → 0 ≤ C j) {j : Nat} (hj : j < N.np) : ∃ n : Int, 0 ≤ n ∧ n ≤ N.alone R C j ∧ N.most R C ≤ n + N.most (N.lessR R j n) (dw C j) := by
 -- the largest number that every set allows
 have hcj := hC j hj
 have hal : 0 ≤ N.alone R C j := Net.le_alone.2 ⟨hcj, fun i hi => hR i (hN.by_lt hi)⟩
 have key : ∀ n : Int, 0 ≤ n → n ≤ N.alone R C j → (∀ S, ob S (N.fr j) = true → ob S (N.sc j) = true → N.most R C ≤ N.f R C S - n) → (n = N.alone R C j ∨ ∃ S, ob S (N.fr j) = true ∧ ob S (N.sc j) = true ∧ N.f R C S - n = N.most R C) → N.most R C ≤ n + N.most (N.lessR R j n) (dw C j) := by
  intro n h0 h1 h2 h3
  obtain ⟨S, hS⟩ := N.most_get (N.lessR R j n) (dw C j)
  rw [hS, Net.f_less hN hj]
  have hm := Net.most_le (R := R) (C := C) hN S
  cases e1 : ob S (N.fr j) <;> cases e2 : ob S (N.sc j)
  ·have e : N.hit S j = false := by simp [Net.hit, e1, e2]
   simp only [cnt, e1, e2, e, cond_false]
   -- no reader of the page is in the set
   rcases h3 with h3 | ⟨T, t1, t2, t3⟩
   ·-- as1 much as1 can be: the page itself, or a reader
    by_cases hc : n = C j
    ·omega
    ·have h4 := (Net.le_alone.1 h1).1
     obtain ⟨i, hi, hri⟩ : ∃ i, N.by j i = true ∧ R i = n := by
      refine Classical.byContradiction fun hno => ?_
      have : n + 1 ≤ N.alone R C j := Net.le_alone.2 ⟨by omega, fun i hi => by
       have q1 := (Net.le_alone.1 h1).2 i hi
       have q2 : R i ≠ n := fun q => hno ⟨i, hi, q⟩
       omega⟩
      omega
     -- the set with that reader
     have h5 := Net.most_le (R := R) (C := C) hN (fun k => S k || decide (k = i))
     have h6 : N.f R C (fun k => S k || decide (k = i)) ≤ N.f R C S + R i - C j := by
      have g1 : sm N.nr (fun k => bif (S k || decide (k = i)) then R k else 0) ≤ sm N.nr (fun k => bif S k then R k else 0) + R i := by
       have := rq (hN.by_lt hi) (R i)
       rw [← this, ← qa]
       refine rr fun k hk => ?_
       have := hR k hk
       by_cases q : k = i
       ·subst q; cases S k <;> simp <;> omega
       ·cases S k <;> simp [q]
      have g2 : sm N.np (fun k => bif N.hit (fun k => S k || decide (k = i)) k then 0 else C k) ≤ sm N.np (fun k => bif N.hit S k then 0 else C k) - C j := by
       have := rq hj (C j)
       rw [← this, ← rp]
       refine rr fun k hk => ?_
       have hck := hC k hk
       have mono : N.hit S k = true → N.hit (fun k => S k || decide (k = i)) k = true := fun q => by
        obtain ⟨x, x1, x2⟩ := Net.hit_iff.1 q
        exact Net.hit_iff.2 ⟨x, x1, by simp [x2]⟩
       by_cases q : k = j
       ·subst q
        rw [show N.hit (fun k => S k || decide (k = i)) k = true from Net.hit_iff.2 ⟨i, hi, by simp⟩, e]
        simp
       ·rw [decide_eq_false q]
        cases q1 : N.hit S k
        ·cases N.hit (fun k => S k || decide (k = i)) k <;> simp <;> omega
        ·rw [mono q1]; simp
      unfold Net.f
      dsimp only
      omega
     omega
   ·-- crossed with a set that has both
    have hx := Net.cross (R := R) (C := dw C j) hN (fun k hk => by unfold dw; cases decide (k = j) <;> simp; exact hC k hk) S T
    have hsub : ∀ U : Nat → Bool, N.f R (dw C j) U = N.f R C U - (bif N.hit U j then 0 else C j) := fun U => by
     have := Net.f_less (R := R) (C := C) hN hj 0 U
     have e0 : N.lessR R j 0 = R := by funext i; unfold Net.lessR; cases N.by j i <;> simp
     rw [e0] at this
     rw [this]
     unfold cnt
     cases ob U (N.fr j) <;> cases ob U (N.sc j) <;> simp
    rw [hsub, hsub, hsub, hsub, e, show N.hit T j = true by simp [Net.hit, t1]] at hx
    obtain ⟨a, ha⟩ : ∃ a, N.fr j = some a := by cases q : N.fr j with
     | none => rw [q] at t1; cases t1
     | some a => exact ⟨a, rfl⟩
    obtain ⟨b, hb⟩ : ∃ b, N.sc j = some b := by cases q : N.sc j with
     | none => rw [q] at t2; cases t2
     | some b => exact ⟨b, rfl⟩
    rw [ha] at t1
    rw [hb] at t2
    have hA : N.hit (l4 N.nF S T) j = true := by
     simp only [Net.hit, ha, ob, l4, decide_eq_true (hN.fr j a ha), cond_true]
     rw [show T a = true from t1]; simp
    have hB : N.hit (l3 N.nF S T) j = true := by
     have := hN.sc j b hb
     simp only [Net.hit, hb, ob, l3, decide_eq_false (show ¬ b < N.nF by omega), cond_false]
     rw [show T b = true from t2]; simp
    rw [hA, hB] at hx
    simp only [cond_true, cond_false] at hx
    have q1 := Net.most_le (R := R) (C := C) hN (l4 N.nF S T)
    have q2 := Net.most_le (R := R) (C := C) hN (l3 N.nF S T)
    omega
  ·have e : N.hit S j = true := by simp [Net.hit, e2]
   simp only [cnt, e1, e2, e, cond_false, cond_true]
   omega
  ·have e : N.hit S j = true := by simp [Net.hit, e1]
   simp only [cnt, e1, e2, e, cond_false, cond_true]
   omega
  ·have e : N.hit S j = true := by simp [Net.hit, e1]
   simp only [cnt, e1, e2, e, cond_true]
   have := h2 S e1 e2
   omega
 by_cases hb : ∀ S, ob S (N.fr j) = true → ob S (N.sc j) = true → N.most R C ≤ N.f R C S - N.alone R C j
 ·exact ⟨_, hal, Int.le_refl _, key _ hal (Int.le_refl _) hb (.inl rfl)⟩
 ·-- the qo of those that have both
  have : ∃ m : Int, (∃ S, ob S (N.fr j) = true ∧ ob S (N.sc j) = true ∧ N.f R C S = m) ∧ ∀ S, ob S (N.fr j) = true → ob S (N.sc j) = true → m ≤ N.f R C S := by
   obtain ⟨S0, s1, s2⟩ : ∃ S, ob S (N.fr j) = true ∧ ob S (N.sc j) = true := by
    refine Classical.byContradiction fun hno => hb fun S h1 h2 => absurd ⟨S, h1, h2⟩ hno
   have hlow : ∀ S, ob S (N.fr j) = true → ob S (N.sc j) = true → N.most R C ≤ N.f R C S := fun S _ _ => Net.most_le hN S
   generalize hd : (N.f R C S0 - N.most R C).toNat = d
   induction d using Nat.strongRecOn generalizing S0 with
   | _ d ih =>
    by_cases hmin : ∀ S, ob S (N.fr j) = true → ob S (N.sc j) = true → N.f R C S0 ≤ N.f R C S
    ·exact ⟨_, ⟨S0, s1, s2, rfl⟩, hmin⟩
    ·obtain ⟨S1, hS1⟩ := Classical.not_forall.1 hmin
     obtain ⟨t1, hS2⟩ := Classical.not_imp.1 hS1
     obtain ⟨t2, hS3⟩ := Classical.not_imp.1 hS2
     have hl1 := hlow S1 t1 t2
     have hl0 := hlow S0 s1 s2
     exact ih _ (by omega) S1 t1 t2 rfl
  obtain ⟨m, ⟨S, q1, q2, q3⟩, q4⟩ := this
  have hm := Net.most_le (R := R) (C := C) hN S
  have hlt : m - N.most R C < N.alone R C j := by
   refine Classical.byContradiction fun hno => hb fun T t1 t2 => ?_
   have := q4 T t1 t2
   omega
  exact ⟨m - N.most R C, by omega, by omega, key _ (by omega) (by omega) (fun T t1 t2 => by have := q4 T t1 t2; omega) (.inr ⟨S, q1, q2, by omega⟩)⟩
end
end Go.AB
namespace Go.PB
structure bi where
 id : Int
 miss : Int
 deriving DecidableEq
structure am where
 fr : Int
 to : Int
 fst : Int
 snd : Int
 found : List PlaceD
 well : List PlaceD
 deriving DecidableEq
structure ah where
 text : aj
 firsts : List bi
 seconds : List bi
 pages : List am
 deriving DecidableEq
/-- proofs at work -/
structure cc where
 p : ah
 words : List Int
 all : List (List PlaceD)
 both : List (List PlaceD)
structure bg where
 lo : Int
 hi : Int
 deriving DecidableEq
end Go.PB
namespace Go.AB
open Go Go.RowKit
open Go.AB.Enc (cells)
open Go.PB (av aj PlaceD az bd bc bi am ah cc bg)
instance : Enc bi := ⟨fun x => [.v (.int .i64 x.id), .v (.int .i64 x.miss)], 2, fun _ => rfl, fun m x c h => by
 simp only [List.mem_cons, List.not_mem_nil, or_false] at h; rcases h with rfl | rfl <;> exact .v, fun x c h => by
 simp only [List.mem_cons, List.not_mem_nil, or_false] at h; rcases h with rfl | rfl <;> rfl⟩
instance : Enc bg := ⟨fun x => [.v (.int .i64 x.lo), .v (.int .i64 x.hi)], 2, fun _ => rfl, fun m x c h => by
 simp only [List.mem_cons, List.not_mem_nil, or_false] at h; rcases h with rfl | rfl <;> exact .v, fun x c h => by
 simp only [List.mem_cons, List.not_mem_nil, or_false] at h; rcases h with rfl | rfl <;> rfl⟩
instance : Enc am := ⟨fun x => [.v (.int .i64 x.fr), .v (.int .i64 x.to), .v (.int .i64 x.fst), .v (.int .i64 x.snd), lst x.found, lst x.well], 6, fun _ => rfl, fun m x c h => by
 simp only [List.mem_cons, List.not_mem_nil, or_false] at h
 rcases h with rfl | rfl | rfl | rfl | rfl | rfl
 ·exact .v
 ·exact .v
 ·exact .v
 ·exact .v
 ·exact bj m _
 ·exact bj m _, fun x c h => by
 simp only [List.mem_cons, List.not_mem_nil, or_false] at h; rcases h with rfl | rfl | rfl | rfl | rfl | rfl <;> rfl⟩
instance : Enc ah := ⟨fun x => [lst x.text, lst x.firsts, lst x.seconds, lst x.pages], 4, fun _ => rfl, fun m x c h => by
 simp only [List.mem_cons, List.not_mem_nil, or_false] at h
 rcases h with rfl | rfl | rfl | rfl
 ·exact bj m _
 ·exact bj m _
 ·exact bj m _
 ·exact bj m _, fun x c h => by
 simp only [List.mem_cons, List.not_mem_nil, or_false] at h; rcases h with rfl | rfl | rfl | rfl <;> rfl⟩
/-! ### Lines of a text -/
/-- the number of a chapter's first line -/
def fa (t : aj) (k : Nat) : Nat := ((t.take k).map fun c => c.lines.length).sum
theorem zz (t : aj) : fa t 0 = 0 := by simp [fa]
theorem ro {t : aj} {k : Nat} {c : av} (h : t[k]? = some c) : fa t (k + 1) = fa t k + c.lines.length := by
 unfold fa
 rw [List.take_add_one, h]
 simp
def lv (t : aj) : Nat := fa t t.length
/-- the number of the line of a place -/
def ph (t : aj) (q : PlaceD) : Int := q.ln + (fa t q.ch.toNat : Int)
def gh (t : aj) (x : am) (q : PlaceD) : Bool := inB (ph t q) x.fr x.to
/-! ### Valid proofs -/
def l9 (a b : PlaceD) : Bool := decide (eh (cm a) (cm b) < 0)
/-- a place of a list may stand where it does -/
def i2 (t : aj) (x : am) (l : List PlaceD) (i : Nat) : Bool := match l[i]? with
 | none => true
 | some q => eu t q && gh t x q && (decide (i = 0) || match l[i - 1]? with | none => true | some a => l9 a q)
def cz (t : aj) (x : am) (l : List PlaceD) (n : Nat) : Bool := (List.range n).all (i2 t x l)
theorem gd (t : aj) (x : am) (l : List PlaceD) (n : Nat) : cz t x l (n + 1) = (cz t x l n && i2 t x l n) := by
 unfold cz
 rw [List.range_succ, List.all_append]
 simp
def gi (t : aj) (x : am) (r : Int) (l : List PlaceD) : Bool := (decide (0 ≤ r) || decide (l = [])) && cz t x l l.length
def f3 (r : bi) : Bool := inB r.id 0 9999 && inB r.miss 0 90
def jc (p : ah) : Bool := decide (p.firsts.length ≤ 3) && decide (p.seconds.length ≤ 3) && (p.firsts ++ p.seconds).all f3 && decide ((p.firsts ++ p.seconds).map (·.id)).Nodup
def k7 (p : ah) (last : Int) (x : am) : Bool := decide (last < x.fr) && decide (x.fr ≤ x.to) && decide (x.to < (lv p.text : Int)) && inB x.fst (-1) ((p.firsts.length : Int) - 1) && gi p.text x x.fst x.found && inB x.snd (-1) ((p.seconds.length : Int) - 1) && gi p.text x x.snd x.well
/-- the last line ahead of a page -/
def gk (l : List am) : Nat → Int
 | 0 => -1
 | i + 1 => match l[i]? with | some x => x.to | none => -1
def r7 (p : ah) (i : Nat) : Bool := match p.pages[i]? with
 | none => true
 | some x => k7 p (gk p.pages i) x
def o9 (p : ah) (n : Nat) : Bool := (List.range n).all (r7 p)
theorem ua5 (p : ah) (n : Nat) : o9 p (n + 1) = (o9 p n && r7 p n) := by
 unfold o9
 rw [List.range_succ, List.all_append]
 simp
def ff (p : ah) : Bool := jc p && decide (p.pages.length ≤ 8) && o9 p p.pages.length
def ce (p : ah) : Int := bif c6 p.text then (bif ff p then 0 else 90) else 10
/-! ### What is found on a page -/
def dn (t : aj) (x : am) : List PlaceD := (ez t).filter fun q => decide (q ∈ x.found) || decide (q ∈ x.well)
def cj (t : aj) (x : am) : List PlaceD := (ez t).filter fun q => decide (q ∈ x.found) && decide (q ∈ x.well)
def er (t : aj) (x : am) : Nat := ((ez t).filter (gh t x)).length
/-! ### Bounds of readers -/
def eo (b : Bool) (x : am) : Int := bif b then x.snd else x.fst
def cr (b : Bool) (x : am) : List PlaceD := bif b then x.well else x.found
def da (p : ah) (b : Bool) : List bi := bif b then p.seconds else p.firsts
def dt (l : List am) (g : am → Nat) : Nat := (l.map g).sum
theorem rn {l : List am} {k : Nat} {x : am} {g : am → Nat} (h : l[k]? = some x) : dt (l.take (k + 1)) g = dt (l.take k) g + g x := by
 unfold dt
 rw [List.take_add_one, h]
 simp
def f7 (b : Bool) (i : Int) (x : am) : Nat := bif decide (eo b x = i) then (cr b x).length else 0
def iv (t : aj) (b : Bool) (i : Int) (x : am) : Nat := bif decide (eo b x = i) then (dn t x).length else 0
def kh (p : ah) (b : Bool) (i : Nat) : Int := match (da p b)[i]? with | some r => r.miss | none => 0
def nt (p : ah) (b : Bool) (i : Nat) : Int := 100 * (dt p.pages (f7 b i) : Int) / (100 - kh p b i)
def n9 (p : ah) (b : Bool) (i : Nat) : Int := nt p b i - (dt p.pages (iv p.text b i) : Int)
/-! ### What may remain -/
def bw (p : ah) : Nat := p.firsts.length + p.seconds.length
def cn (p : ah) (i : Nat) : Int := bif decide (i < p.firsts.length) then n9 p false i else n9 p true (i - p.firsts.length)
def tm (t : aj) (x : am) : Int := (er t x : Int) - ((dn t x).length : Int)
def i9 (p : ah) : Bool := (List.range (bw p)).all fun i => decide (0 ≤ cn p i)
def br (p : ah) : Net where
 nF := p.firsts.length
 nr := bw p
 np := p.pages.length
 fr := fun j => match p.pages[j]? with | some x => (bif decide (0 ≤ x.fst) then some x.fst.toNat else none) | none => none
 sc := fun j => match p.pages[j]? with | some x => (bif decide (0 ≤ x.snd) then some (p.firsts.length + x.snd.toNat) else none) | none => none
end Go.AB
namespace Go.AB
/-- so much on a page is the most of what loses nothing -/
structure Net.Pick (N : Net) (R C : Nat → Int) (j : Nat) (n : Int) : Prop where
 nn : 0 ≤ n
 le : n ≤ N.alone R C j
 ok : N.most R C ≤ n + N.most (N.lessR R j n) (dw C j)
 max : ∀ m, n < m → m ≤ N.alone R C j → ¬ N.most R C ≤ m + N.most (N.lessR R j m) (dw C j)
section
variable {N : Net} {R C : Nat → Int}
theorem Net.Pick.uniq {j : Nat} {n m : Int} (h : N.Pick R C j n) (k : N.Pick R C j m) : n = m := by
 rcases Int.lt_trichotomy n m with q | q | q
 ·exact absurd k.ok (h.max m q k.le)
 ·exact q
 ·exact absurd h.ok (k.max n q h.le)
theorem Net.pick_ex (hN : N.Ok) (hR : ∀ i, i < N.nr → 0 ≤ R i) (hC : ∀ j, j < N.np → 0 ≤ C j) {j : Nat} (hj : j < N.np) : ∃ n, N.Pick R C j n := by
 obtain ⟨n, h1, h2, h3⟩ := Net.greedy hN hR hC hj
 generalize hd : (N.alone R C j - n).toNat = d
 induction d using Nat.strongRecOn generalizing n with
 | _ d ih =>
  by_cases hmax : ∀ m, n < m → m ≤ N.alone R C j → ¬ N.most R C ≤ m + N.most (N.lessR R j m) (dw C j)
  ·exact ⟨n, h1, h2, h3, hmax⟩
  ·obtain ⟨m, hm⟩ := Classical.not_forall.1 hmax
   obtain ⟨q1, hm⟩ := Classical.not_imp.1 hm
   obtain ⟨q2, hm⟩ := Classical.not_imp.1 hm
   exact ih _ (by omega) m (by omega) q2 (Classical.not_not.1 hm) rfl
open Classical in
noncomputable def Net.pick (N : Net) (R C : Nat → Int) (j : Nat) : Int := if h : ∃ n, N.Pick R C j n then h.choose else 0
theorem Net.pick_spec {j : Nat} (h : ∃ n, N.Pick R C j n) : N.Pick R C j (N.pick R C j) := by
 unfold Net.pick
 rw [dif_pos h]
 exact h.choose_spec
theorem Net.pick_eq {j : Nat} {n : Int} (h : N.Pick R C j n) : N.pick R C j = n := (Net.pick_spec ⟨n, h⟩).uniq h
/-- what may remain ahead of a page, by the worst truth -/
noncomputable def Net.room (N : Net) (R C : Nat → Int) : Nat → (Nat → Int) × (Nat → Int)
 | 0 => (R, C)
 | i + 1 => (N.lessR (N.room R C i).1 i (N.pick (N.room R C i).1 (N.room R C i).2 i), dw (N.room R C i).2 i)
/-- the worst truth -/
noncomputable def Net.worst (N : Net) (R C : Nat → Int) (i : Nat) : Int := N.pick (N.room R C i).1 (N.room R C i).2 i
theorem Net.room_succ (i : Nat) : N.room R C (i + 1) = (N.lessR (N.room R C i).1 i (N.worst R C i), dw (N.room R C i).2 i) := rfl
structure Net.RoomOk (N : Net) (R C : Nat → Int) (i : Nat) : Prop where
 rnn : ∀ r, r < N.nr → 0 ≤ (N.room R C i).1 r
 cnn : ∀ j, j < N.np → 0 ≤ (N.room R C i).2 j
 all : N.most (N.room R C i).1 (N.room R C i).2 = N.most R C - sm i (N.worst R C)
 caps : ∀ j, (N.room R C i).2 j = bif decide (j < i) then 0 else C j
 rds : ∀ r, (N.room R C i).1 r = R r - sm i (fun j => bif N.by j r then N.worst R C j else 0)
theorem Net.room_ok (hN : N.Ok) (hR : ∀ i, i < N.nr → 0 ≤ R i) (hC : ∀ j, j < N.np → 0 ≤ C j) : ∀ i, i ≤ N.np → N.RoomOk R C i
 | 0, _ => ⟨hR, hC, by simp [Net.room, sm], fun j => by simp [Net.room], fun r => by simp [Net.room, sm]⟩
 | i + 1, hi => by
  have h := Net.room_ok hN hR hC i (by omega)
  have hp : N.Pick (N.room R C i).1 (N.room R C i).2 i (N.worst R C i) := Net.pick_spec (Net.pick_ex hN h.rnn h.cnn (by omega))
  have hal := Net.le_alone.1 hp.le
  have hle := Net.less_le (R := (N.room R C i).1) (C := (N.room R C i).2) hN (show i < N.np by omega) hp.nn hal.1
  have hok := hp.ok
  refine ⟨fun r hr => ?_, fun j hj => ?_, ?_, fun j => ?_, fun r => ?_⟩
  ·rw [Net.room_succ]
   show 0 ≤ N.lessR _ i _ r
   unfold Net.lessR
   cases hb : N.by i r
   ·exact h.rnn r hr
   ·have := hal.2 r hb
    simp only [cond_true]; omega
  ·rw [Net.room_succ]
   show 0 ≤ dw _ i j
   unfold dw
   cases decide (j = i)
   ·exact h.cnn j hj
   ·exact Int.le_refl _
  ·rw [Net.room_succ]
   have := h.all
   simp only [sm]
   show N.most (N.lessR _ i _) (dw _ i) = _
   omega
  ·rw [Net.room_succ]
   show dw _ i j = _
   unfold dw
   rw [h.caps j]
   by_cases e : j = i
   ·subst e; simp
   ·rw [decide_eq_false e, cond_false, show decide (j < i + 1) = decide (j < i) by rw [decide_eq_decide]; omega]
  ·rw [Net.room_succ]
   show N.lessR _ i _ r = _
   unfold Net.lessR
   rw [h.rds r]
   simp only [sm]
   cases N.by i r <;> simp <;> omega
theorem Net.worst_pick (hN : N.Ok) (hR : ∀ i, i < N.nr → 0 ≤ R i) (hC : ∀ j, j < N.np → 0 ≤ C j) {i : Nat} (hi : i < N.np) : N.Pick (N.room R C i).1 (N.room R C i).2 i (N.worst R C i) := by
 have h := Net.room_ok hN hR hC i (by omega)
 exact Net.pick_spec (Net.pick_ex hN h.rnn h.cnn hi)
end
end Go.AB
namespace Go.AB
open Go Go.RowKit
open Go.AB.Enc (cells)
open Go.PB (av aj PlaceD az bd bc bi am ah cc bg)
theorem sumL_sm (g : am → Nat) : ∀ l : List am, ((dt l g : Nat) : Int) = sm l.length (fun j => match l[j]? with | some x => (g x : Int) | none => 0) := by
 intro l
 have key : ∀ k, k ≤ l.length → ((dt (l.take k) g : Nat) : Int) = sm k (fun j => match l[j]? with | some x => (g x : Int) | none => 0) := by
  intro k
  induction k with
  | zero => intro _; rfl
  | succ k ih =>
   intro hk
   have hx : l[k]? = some l[k] := List.getElem?_eq_getElem (by omega)
   rw [rn hx]
   simp only [sm, hx]
   have := ih (by omega)
   omega
 have := key l.length (Nat.le_refl _)
 rwa [List.take_length] at this
/-! ### What valid proofs are -/
structure e8 (p : ah) : Prop where
 text : c6 p.text = true
 nf : p.firsts.length ≤ 3
 ns : p.seconds.length ≤ 3
 np : p.pages.length ≤ 8
 rd : ∀ r ∈ p.firsts ++ p.seconds, f3 r = true
 page : ∀ (j : Nat) (x : am), p.pages[j]? = some x → k7 p (gk p.pages j) x = true
theorem l5 {p : ah} (h : ce p = 0) : e8 p ∧ ff p = true := by
 unfold ce at h
 cases ht : c6 p.text
 ·rw [ht] at h; simp at h
 ·cases hp : ff p
  ·rw [ht, hp] at h; simp at h
  ·refine ⟨?_, rfl⟩
   unfold ff jc at hp
   simp only [Bool.and_eq_true, decide_eq_true_eq] at hp
   obtain ⟨⟨⟨⟨⟨h1, h2⟩, h3⟩, _⟩, h5⟩, h6⟩ := hp
   refine ⟨ht, h1, h2, h5, fun r hr => List.all_eq_true.1 h3 r hr, fun j x hx => ?_⟩
   have hj := (List.getElem?_eq_some_iff.1 hx).1
   have := List.all_eq_true.1 h6 j (List.mem_range.2 hj)
   unfold r7 at this
   rw [hx] at this
   exact this
structure ky (p : ah) (last : Int) (x : am) : Prop where
 fr : last < x.fr
 to : x.fr ≤ x.to
 lt : x.to < (lv p.text : Int)
 fst : -1 ≤ x.fst ∧ x.fst ≤ (p.firsts.length : Int) - 1
 snd : -1 ≤ x.snd ∧ x.snd ≤ (p.seconds.length : Int) - 1
 found : gi p.text x x.fst x.found = true
 well : gi p.text x x.snd x.well = true
theorem pageB_true {p : ah} {last : Int} {x : am} : k7 p last x = true ↔ ky p last x := by
 unfold k7
 simp only [Bool.and_eq_true, decide_eq_true_eq, inB_true]
 exact ⟨fun ⟨⟨⟨⟨⟨⟨h1, h2⟩, h3⟩, h4⟩, h5⟩, h6⟩, h7⟩ => ⟨h1, h2, h3, h4, h6, h5, h7⟩, fun h => ⟨⟨⟨⟨⟨⟨h.fr, h.to⟩, h.lt⟩, h.fst⟩, h.found⟩, h.snd⟩, h.well⟩⟩
theorem ly {t : aj} {x : am} {r : Int} {l : List PlaceD} (h : gi t x r l = true) {q : PlaceD} (hq : q ∈ l) : eu t q = true ∧ gh t x q = true := by
 unfold gi at h
 rw [Bool.and_eq_true] at h
 obtain ⟨i, hi⟩ := List.getElem?_of_mem hq
 have := List.all_eq_true.1 h.2 i (List.mem_range.2 (List.getElem?_eq_some_iff.1 hi).1)
 unfold i2 at this
 rw [hi] at this
 simp only [Bool.and_eq_true] at this
 exact this.1
theorem uk6 {t : aj} {x : am} {r : Int} {l : List PlaceD} (h : gi t x r l = true) {i : Nat} {a q : PlaceD} (ha : l[i]? = some a) (hq : l[i + 1]? = some q) : eh (cm a) (cm q) < 0 := by
 unfold gi at h
 rw [Bool.and_eq_true] at h
 have := List.all_eq_true.1 h.2 (i + 1) (List.mem_range.2 (List.getElem?_eq_some_iff.1 hq).1)
 unfold i2 at this
 rw [hq, Nat.add_sub_cancel, ha] at this
 have h9 : (eu t q = true ∧ gh t x q = true) ∧ eh (cm a) (cm q) < 0 := by simpa [l9] using this
 exact h9.2
theorem ued {a b c : PlaceD} (h : eh (cm a) (cm b) < 0) (k : eh (cm b) (cm c) < 0) : eh (cm a) (cm c) < 0 := by
 rw [mu (by rfl)] at h k ⊢
 exact qm h k
theorem y5 (a : PlaceD) : ¬ eh (cm a) (cm a) < 0 := by
 rw [mu (by rfl)]
 exact n8 _
theorem uge {l : List PlaceD} (h : ∀ (i : Nat) (a q : PlaceD), l[i]? = some a → l[i + 1]? = some q → eh (cm a) (cm q) < 0) : l.Pairwise fun a b => eh (cm a) (cm b) < 0 := by
 rw [List.pairwise_iff_getElem]
 intro i j hi hj hij
 have key : ∀ d (hd : i + 1 + d < l.length), eh (cm l[i]) (cm l[i + 1 + d]) < 0 := by
  intro d
  induction d with
  | zero => intro hd; exact h i _ _ (List.getElem?_eq_getElem hi) (List.getElem?_eq_getElem hd)
  | succ d ih =>
   intro hd
   exact ued (ih (by omega)) (h (i + 1 + d) _ _ (List.getElem?_eq_getElem (by omega)) (List.getElem?_eq_getElem hd))
 have := key (j - (i + 1)) (by omega)
 simpa [show i + 1 + (j - (i + 1)) = j by omega] using this
theorem vo {t : aj} {x : am} {r : Int} {l : List PlaceD} (h : gi t x r l = true) : l.Pairwise fun a b => eh (cm a) (cm b) < 0 := uge fun _ _ _ ha hq => uk6 h ha hq
/-- lists in order, with the same places -/
theorem ue : ∀ {l m : List PlaceD}, l.Pairwise (fun a b => eh (cm a) (cm b) < 0) → m.Pairwise (fun a b => eh (cm a) (cm b) < 0) → (∀ q, q ∈ l ↔ q ∈ m) → l = m
 | [], [], _, _, _ => rfl
 | [], b :: m, _, _, h => by have := (h b).2 (List.mem_cons_self ..); cases this
 | a :: l, [], _, _, h => by have := (h a).1 (List.mem_cons_self ..); cases this
 | a :: l, b :: m, h1, h2, h => by
  rw [List.pairwise_cons] at h1 h2
  have hab : a = b := by
   have p1 := (h a).1 (List.mem_cons_self ..)
   have p2 := (h b).2 (List.mem_cons_self ..)
   rw [List.mem_cons] at p1 p2
   rcases p1 with rfl | p1
   ·rfl
   ·rcases p2 with rfl | p2
    ·rfl
    ·exact absurd (ued (h1.1 b p2) (h2.1 a p1)) (y5 a)
  subst hab
  rw [ue h1.2 h2.2 fun q => ?_]
  constructor
  ·intro hq
   have := (h q).1 (List.mem_cons_of_mem _ hq)
   rw [List.mem_cons] at this
   rcases this with rfl | this
   ·exact absurd (h1.1 q hq) (y5 q)
   ·exact this
  ·intro hq
   have := (h q).2 (List.mem_cons_of_mem _ hq)
   rw [List.mem_cons] at this
   rcases this with rfl | this
   ·exact absurd (h2.1 q hq) (y5 q)
   ·exact this
/-! ### Pages between readers -/
def r6 (p : ah) (j : Nat) (g : am → Int) : Int := match p.pages[j]? with | some x => g x | none => 0
theorem uh7 {p : ah} {j : Nat} {x : am} (h : p.pages[j]? = some x) (g : am → Int) : r6 p j g = g x := by unfold r6; rw [h]
def c7 (p : ah) (j : Nat) : Int := r6 p j (tm p.text)
theorem ui9 {p : ah} (h : e8 p) : (br p).Ok := by
 refine ⟨Nat.le_add_right _ _, fun j i hi => ?_, fun j i hi => ?_⟩
 ·simp only [br] at hi ⊢
  cases hx : p.pages[j]? with
  | none => rw [hx] at hi; cases hi
  | some x =>
   rw [hx] at hi
   have hp := (pageB_true.1 (h.page j x hx)).fst
   dsimp only at hi
   by_cases q : 0 ≤ x.fst
   ·rw [decide_eq_true q, cond_true, Option.some.injEq] at hi
    omega
   ·rw [decide_eq_false q] at hi; cases hi
 ·simp only [br, bw] at hi ⊢
  cases hx : p.pages[j]? with
  | none => rw [hx] at hi; cases hi
  | some x =>
   rw [hx] at hi
   have hp := (pageB_true.1 (h.page j x hx)).snd
   dsimp only at hi
   by_cases q : 0 ≤ x.snd
   ·rw [decide_eq_true q, cond_true, Option.some.injEq] at hi
    omega
   ·rw [decide_eq_false q] at hi; cases hi
/-- the readers of a page, as the program lists them -/
def cx (p : ah) (x : am) : List Int := (bif decide (0 ≤ x.fst) then [x.fst] else []) ++ (bif decide (0 ≤ x.snd) then [(p.firsts.length : Int) + x.snd] else [])
theorem ukp {p : ah} {j : Nat} {x : am} (hx : p.pages[j]? = some x) (S : Nat → Bool) : (br p).hit S j = (cx p x).any fun k => S k.toNat := by
 simp only [Net.hit, br, hx, cx, List.any_append]
 congr 1
 ·cases decide (0 ≤ x.fst) <;> simp [ob]
 ·by_cases q : 0 ≤ x.snd
  ·simp [q, ob, show ((p.firsts.length : Int) + x.snd).toNat = p.firsts.length + x.snd.toNat by omega]
  ·simp [q, ob]
theorem ukz {p : ah} {last : Int} {x : am} (h : ky p last x) : (dn p.text x).length ≤ er p.text x := by
 unfold dn er
 rw [← List.countP_eq_length_filter, ← List.countP_eq_length_filter]
 refine List.countP_mono_left fun q _ hq => ?_
 rw [Bool.or_eq_true, decide_eq_true_eq, decide_eq_true_eq] at hq
 rcases hq with hq | hq
 ·exact (ly h.found hq).2
 ·exact (ly h.well hq).2
theorem ud1 {p : ah} (h : e8 p) (j : Nat) : 0 ≤ c7 p j := by
 unfold c7 r6
 cases hx : p.pages[j]? with
 | none => exact Int.le_refl _
 | some x =>
  have := ukz (pageB_true.1 (h.page j x hx))
  show 0 ≤ tm p.text x
  unfold tm
  omega
end Go.AB
namespace Go.AB
open Go Go.RowKit
open Go.AB.Enc (cells)
/-- the numbers of a set -/
def u6 (n s : Nat) : List Nat := (List.range n).filter fun i => s.testBit i
def ed (n s : Nat) : List Int := (u6 n s).map fun i : Nat => (i : Int)
theorem ub7 (n s : Nat) : ed (n + 1) s = ed n s ++ (bif s.testBit n then [(n : Int)] else []) := by
 unfold ed u6
 rw [List.range_succ, List.filter_append, List.map_append]
 cases h : s.testBit n <;> simp [h]
theorem sj (n s : Nat) : (ed n s).length ≤ n := by
 unfold ed u6
 rw [List.length_map]
 have := List.length_filter_le (fun i => s.testBit i) (List.range n)
 rwa [List.length_range] at this
theorem membersL_mem {n s : Nat} {x : Int} : x ∈ ed n s ↔ ∃ i : Nat, x = (i : Int) ∧ i < n ∧ s.testBit i = true := by
 unfold ed u6
 simp only [List.mem_map, List.mem_filter, List.mem_range]
 exact ⟨fun ⟨i, ⟨h1, h2⟩, h3⟩ => ⟨i, h3.symm, h1, h2⟩, fun ⟨i, h3, h1, h2⟩ => ⟨i, ⟨h1, h2⟩, h3.symm⟩⟩
/-- the order of lists: shorter ones first, then by their numbers -/
def ig (a b : List Int) : Bool := decide (a.length < b.length) || (decide (a.length = b.length) && decide (eh a b < 0))
theorem uee {a b : List Int} : ig a b = true ↔ a.length < b.length ∨ (a.length = b.length ∧ ltW a b) := by
 unfold ig
 rw [Bool.or_eq_true, Bool.and_eq_true, decide_eq_true_eq, decide_eq_true_eq, decide_eq_true_eq]
 constructor
 ·rintro (h | ⟨h1, h2⟩)
  ·exact .inl h
  ·exact .inr ⟨h1, (mu h1).1 h2⟩
 ·rintro (h | ⟨h1, h2⟩)
  ·exact .inl h
  ·exact .inr ⟨h1, (mu h1).2 h2⟩
theorem uef (a : List Int) : ig a a = false := by
 rw [← Bool.not_eq_true, uee]
 rintro (h | ⟨_, h⟩)
 ·omega
 ·exact n8 a h
theorem umk {a b c : List Int} (h : ig a b = true) (k : ig b c = true) : ig a c = true := by
 rw [uee] at *
 rcases h with h | ⟨h1, h2⟩
 ·rcases k with k | ⟨k1, _⟩
  ·exact .inl (by omega)
  ·exact .inl (by omega)
 ·rcases k with k | ⟨k1, k2⟩
  ·exact .inl (by omega)
  ·exact .inr ⟨by omega, qm h2 k2⟩
/-- what is found among the first sets -/
def ei (so : Nat → Bool) (n : Nat) : Nat → Option (List Int)
 | 0 => none
 | k + 1 => match ei so n k with
  | none => bif so k then some (ed n k) else none
  | some b => bif so k && ig (ed n k) b then some (ed n k) else some b
def mw (so : Nat → Bool) (n : Nat) : List Int := (ei so n (2 ^ n)).getD []
structure unh (so : Nat → Bool) (n k : Nat) (b : List Int) : Prop where
 get : ∃ s, s < k ∧ so s = true ∧ b = ed n s
 min : ∀ s, s < k → so s = true → ig (ed n s) b = false
theorem vw (so : Nat → Bool) (n : Nat) : ∀ k, (ei so n k = none ∧ ∀ s, s < k → so s = false) ∨ ∃ b, ei so n k = some b ∧ unh so n k b
 | 0 => .inl ⟨rfl, fun s h => absurd h (Nat.not_lt_zero _)⟩
 | k + 1 => by
  rcases vw so n k with ⟨h1, h2⟩ | ⟨b, h1, h2⟩
  ·simp only [ei, h1]
   cases hs : so k
   ·exact .inl ⟨rfl, fun s h => by
     by_cases e : s = k
     ·subst e; exact hs
     ·exact h2 s (by omega)⟩
   ·exact .inr ⟨_, rfl, ⟨k, by omega, hs, rfl⟩, fun s h hso => by
     by_cases e : s = k
     ·subst e; exact uef _
     ·rw [h2 s (by omega)] at hso; cases hso⟩
  ·simp only [ei, h1]
   right
   cases hs : so k && ig (ed n k) b
   ·refine ⟨b, rfl, ?_, fun s h hso => ?_⟩
    ·obtain ⟨s, q1, q2, q3⟩ := h2.get
     exact ⟨s, by omega, q2, q3⟩
    ·by_cases e : s = k
     ·subst e
      rw [hso, Bool.true_and] at hs
      exact hs
     ·exact h2.min s (by omega) hso
   ·rw [Bool.and_eq_true] at hs
    refine ⟨_, rfl, ⟨k, by omega, hs.1, rfl⟩, fun s h hso => ?_⟩
    by_cases e : s = k
    ·subst e; exact uef _
    ·rw [← Bool.not_eq_true]
     intro hb
     have := umk hb hs.2
     rw [h2.min s (by omega) hso] at this
     cases this
theorem uec (so : Nat → Bool) (n : Nat) : (mw so n).length ≤ n := by
 unfold mw
 rcases vw so n (2 ^ n) with ⟨h, _⟩ | ⟨b, h, k⟩
 ·rw [h]; exact Nat.zero_le _
 ·rw [h]
  obtain ⟨s, _, _, rfl⟩ := k.get
  exact sj n s
theorem ueb {so : Nat → Bool} {n k : Nat} (h : ei so n k = none) : ei so n (k + 1) = bif so k then some (ed n k) else none := by simp only [ei, h]
theorem y4 {so : Nat → Bool} {n k : Nat} {b : List Int} (h : ei so n k = some b) : ei so n (k + 1) = bif so k && ig (ed n k) b then some (ed n k) else some b := by simp only [ei, h]
/-! ### Lists of numbers that are looked up -/
def cd (n : Nat) (R : Nat → Int) : List Int := (List.range n).map R
theorem ja (n : Nat) (R : Nat → Int) : (cd n R).length = n := by simp [cd]
theorem mg {n i : Nat} (R : Nat → Int) (h : i < n) : (cd n R)[i]? = some (R i) := by simp [cd, h]
theorem ww (n : Nat) (R : Nat → Int) : cd (n + 1) R = cd n R ++ [R n] := by
 unfold cd
 rw [List.range_succ, List.map_append]; rfl
theorem wx {n i : Nat} (R : Nat → Int) (v : Int) (h : i < n) : (cd n R).set i v = cd n fun k => bif decide (k = i) then v else R k := by
 apply List.ext_getElem?
 intro k
 rw [List.getElem?_set, ja]
 by_cases hk : k < n
 ·rw [mg (fun k => bif decide (k = i) then v else R k) hk, mg R hk]
  by_cases e : i = k
  ·subst e; rw [if_pos rfl, if_pos h, decide_eq_true rfl]; rfl
  ·rw [if_neg e, decide_eq_false (Ne.symm e)]; rfl
 ·rw [List.getElem?_eq_none (by rw [ja]; omega)]
  rw [if_neg (by omega), List.getElem?_eq_none (by rw [ja]; omega)]
end Go.AB
namespace Go.AB
open Go Go.RowKit
open Go.AB.Enc (cells)
open Go.PB (av aj PlaceD az bd bc bi am ah cc bg)
/-! ### All places are in order -/
theorem ums (t : aj) : (ez t).Pairwise fun a b => eh (cm a) (cm b) < 0 := by
 unfold ez
 rw [List.pairwise_map, List.pairwise_iff_getElem]
 intro i j hi hj hij
 have h1 := List.getElem?_eq_getElem hi
 have h2 := List.getElem?_eq_getElem hj
 have h := ui4 (ueu h1).1 (ueu h2).1
 rw [xq h1 rfl, xq h2 rfl] at h
 rw [mu (by rfl), ← h]
 omega
theorem allQ_mem {t : aj} {q : PlaceD} : q ∈ ez t ↔ eu t q = true := allP_mem
theorem vp {t : aj} (f : PlaceD → Bool) : ((ez t).filter f).Pairwise fun a b => eh (cm a) (cm b) < 0 := (ums t).filter _
/-- places in order, of a text, are those of all places that are among them -/
theorem ugl {t : aj} {l : List PlaceD} (h : l.Pairwise fun a b => eh (cm a) (cm b) < 0) (hp : ∀ q ∈ l, eu t q = true) : l = (ez t).filter fun q => decide (q ∈ l) :=
 ue h (vp _) fun q => by
  rw [List.mem_filter, decide_eq_true_eq, allQ_mem]
  exact ⟨fun h => ⟨hp q h, h⟩, fun h => h.2⟩
theorem tf {t : aj} {x : am} {r : Int} {l : List PlaceD} (h : gi t x r l = true) : l = (ez t).filter fun q => decide (q ∈ l) := ugl (vo h) fun q hq => (ly h hq).1
theorem ms {t : aj} {x : am} {r : Int} {l : List PlaceD} (h : gi t x r l = true) : l.length ≤ (ez t).length := by
 rw [tf h]
 exact List.length_filter_le _ _
theorem te (t : aj) (x : am) : (dn t x).length ≤ (ez t).length := List.length_filter_le _ _
theorem yy (t : aj) (x : am) : (cj t x).length ≤ (ez t).length := List.length_filter_le _ _
theorem we (t : aj) (x : am) : er t x ≤ (ez t).length := List.length_filter_le _ _
/-! ### How great numbers are -/
theorem wy {g : am → Nat} {m : Nat} : ∀ {l : List am}, (∀ x ∈ l, g x ≤ m) → dt l g ≤ l.length * m
 | [], _ => by simp [dt]
 | x :: l, h => by
  have h1 := wy (l := l) fun y hy => h y (List.mem_cons_of_mem _ hy)
  have h2 := h x (List.mem_cons_self ..)
  simp only [dt, List.map_cons, List.sum_cons, List.length_cons] at h1 ⊢
  rw [Nat.succ_mul]
  omega
theorem ube {p : ah} (h : e8 p) (b : Bool) (i : Int) : dt p.pages (f7 b i) ≤ 4800 := by
 have hq := ox h.text
 have h1 := wy (l := p.pages) (g := f7 b i) (m := 600) fun x hx => by
  obtain ⟨j, hj⟩ := List.getElem?_of_mem hx
  have hp := pageB_true.1 (h.page j x hj)
  unfold f7
  cases decide (eo b x = i)
  ·exact Nat.zero_le _
  ·cases b
   ·have := ms hp.found
    show x.found.length ≤ 600
    omega
   ·have := ms hp.well
    show x.well.length ≤ 600
    omega
 have := h.np
 have h2 : p.pages.length * 600 ≤ 8 * 600 := Nat.mul_le_mul_right _ this
 omega
theorem uas {p : ah} (h : e8 p) (b : Bool) (i : Int) : dt p.pages (iv p.text b i) ≤ 4800 := by
 have hq := ox h.text
 have h1 := wy (l := p.pages) (g := iv p.text b i) (m := 600) fun x hx => by
  have := te p.text x
  unfold iv
  cases decide (eo b x = i)
  ·exact Nat.zero_le _
  ·show (dn p.text x).length ≤ 600
   omega
 have := h.np
 have h2 : p.pages.length * 600 ≤ 8 * 600 := Nat.mul_le_mul_right _ this
 omega
theorem ub2 {p : ah} (h : e8 p) (b : Bool) (i : Nat) : 0 ≤ kh p b i ∧ kh p b i ≤ 90 := by
 unfold kh
 cases hr : (da p b)[i]? with
 | none => exact ⟨Int.le_refl _, by show (0 : Int) ≤ 90; omega⟩
 | some r =>
  have hm := List.mem_of_getElem? hr
  have : f3 r = true := h.rd r (by
   rw [List.mem_append]
   cases b
   ·exact .inl hm
   ·exact .inr hm)
  unfold f3 at this
  rw [Bool.and_eq_true, inB_true, inB_true] at this
  exact this.2
theorem ud3 {p : ah} (h : e8 p) (b : Bool) (i : Nat) : 0 ≤ nt p b i ∧ nt p b i ≤ 48000 := by
 have h1 := ube h b i
 have h2 := ub2 h b i
 unfold nt
 have h3 : (0 : Int) < 100 - kh p b i := by omega
 refine ⟨Int.ediv_nonneg (by omega) (by omega), ?_⟩
 have h4 : 100 * ((dt p.pages (f7 b i) : Nat) : Int) / (100 - kh p b i) ≤ 100 * ((dt p.pages (f7 b i) : Nat) : Int) / 10 := by
  refine Int.le_ediv_of_mul_le (by omega) ?_
  have h5 := Int.ediv_mul_le (100 * ((dt p.pages (f7 b i) : Nat) : Int)) (show (100 - kh p b i) ≠ 0 by omega)
  have h6 : 0 ≤ 100 * ((dt p.pages (f7 b i) : Nat) : Int) / (100 - kh p b i) := Int.ediv_nonneg (by omega) (by omega)
  have h7 : 100 * ((dt p.pages (f7 b i) : Nat) : Int) / (100 - kh p b i) * 10 ≤ 100 * ((dt p.pages (f7 b i) : Nat) : Int) / (100 - kh p b i) * (100 - kh p b i) := Int.mul_le_mul_of_nonneg_left (by omega) h6
  omega
 omega
theorem uch {p : ah} (h : e8 p) (b : Bool) (i : Nat) : -4800 ≤ n9 p b i ∧ n9 p b i ≤ 48000 := by
 have h1 := ud3 h b i
 have h2 := uas h b i
 unfold n9
 omega
theorem uj9 {p : ah} (h : e8 p) (i : Nat) : -4800 ≤ cn p i ∧ cn p i ≤ 48000 := by
 unfold cn
 cases decide (i < p.firsts.length)
 ·exact uch h _ _
 ·exact uch h _ _
theorem ul5 {p : ah} (h : e8 p) (j : Nat) : 0 ≤ c7 p j ∧ c7 p j ≤ 600 := by
 refine ⟨ud1 h j, ?_⟩
 have hq := ox h.text
 unfold c7 r6
 cases hx : p.pages[j]? with
 | none => show (0 : Int) ≤ 600; omega
 | some x =>
  have := we p.text x
  show tm p.text x ≤ 600
  unfold tm
  omega
/-! ### What is told -/
section
def du (p : ah) (n : Int) : Int := bif decide (ce p = 0) then (bif inB n 0 ((p.pages.length : Int) - 1) then 0 else 2) else ce p
def fp (p : ah) (e : Int) : Int := bif decide (e = 0) then (bif i9 p then 0 else 8) else e
def jw (p : ah) (b : Bool) (n : Int) : Int := bif decide (ce p = 0) then (bif inB n 0 (((da p b).length : Int) - 1) then 0 else 2) else ce p
def ix (p : ah) (m : Int) : Int := bif decide (ce p = 0) then (bif decide (m < 0) then 2 else bif i9 p then 0 else 8) else ce p
def atE {α : Type} (e : Int) (d v : α) : α := bif decide (e = 0) then v else d
def ll (p : ah) (n : Int) : am := (p.pages[n.toNat]?).getD ⟨0, 0, 0, 0, [], []⟩
def o4 (p : ah) (n : Int) : Int := atE (du p n) 0 (er p.text (ll p n) : Int)
def om (p : ah) (n : Int) : List PlaceD := atE (du p n) [] (dn p.text (ll p n))
def ou (p : ah) (n : Int) : List PlaceD := atE (du p n) [] (cj p.text (ll p n))
def nm (p : ah) (b : Bool) (n : Int) : Int := atE (jw p b n) 0 (nt p b n.toNat)
def lg (p : ah) (n : Int) : Int := bif decide (du p n = 0) then (bif decide ((cj p.text (ll p n)).length = 0) then 6 else 0) else du p n
def s9 (x : am) (k : Nat) : bg := ⟨((x.found.length * x.well.length / k : Nat) : Int), (((x.found.length * x.well.length + k - 1) / k : Nat) : Int)⟩
def nh (p : ah) (n : Int) : bg := atE (lg p n) ⟨0, 0⟩ (s9 (ll p n) (cj p.text (ll p n)).length)
def o6 (p : ah) (n : Int) : bg := atE (fp p (du p n)) ⟨0, 0⟩ ⟨0, (br p).alone (cn p) (c7 p) n.toNat⟩
def zo (p : ah) : Int := (br p).most (cn p) (c7 p)
def p8 (p : ah) : bg := atE (fp p (ce p)) ⟨0, 0⟩ ⟨0, zo p⟩
noncomputable def i6 (p : ah) : Nat → Int := (br p).worst (cn p) (c7 p)
noncomputable def o1 (p : ah) : List Int := atE (fp p (ce p)) [] (cd p.pages.length (i6 p))
def p7 (p : ah) (s : Nat) : Bool := decide ((br p).f (cn p) (c7 p) (fun i => s.testBit i) = zo p)
def gj (p : ah) : List Int := mw (p7 p) (bw p)
def my (p : ah) (l : List Int) : List Int := l.filter fun k => decide (k < (p.firsts.length : Int))
def mf (p : ah) (l : List Int) : List Int := (l.filter fun k => !decide (k < (p.firsts.length : Int))).map fun k => k - (p.firsts.length : Int)
def j9 (C : Nat → Int) (l : List Int) (j : Nat) : Int := bif decide ((j : Int) ∈ l) then 0 else C j
def uev (p : ah) (l : List Int) : Int := (br p).most (cn p) (j9 (c7 p) l)
def tj (p : ah) (m : Int) (s : Nat) : Bool := decide (uev p (ed p.pages.length s) ≤ m)
def jr (p : ah) (m : Int) : List Int := atE (ix p m) [] (mw (tj p m) p.pages.length)
end
theorem ue5 (C : Nat → Int) : j9 C [] = C := by funext j; simp [j9]
theorem ue4 (C : Nat → Int) (l : List Int) (i : Nat) : j9 C (l ++ [(i : Int)]) = dw (j9 C l) i := by
 funext j
 unfold j9 dw
 by_cases e : j = i
 ·subst e; simp
 ·rw [decide_eq_false e, cond_false]
  congr 1
  rw [decide_eq_decide, List.mem_append, List.mem_singleton]
  constructor
  ·rintro (h | h)
   ·exact h
   ·omega
  ·exact .inl
theorem uj4 (N : Net) (R : Nat → Int) (j : Nat) : N.lessR R j 0 = R := by
 funext i
 unfold Net.lessR
 cases N.by j i <;> simp
theorem ufz {p : ah} (h : i9 p = true) : ∀ i, i < (br p).nr → 0 ≤ cn p i := fun i hi => by
 have := List.all_eq_true.1 h i (List.mem_range.2 hi)
 exact of_decide_eq_true this
end Go.AB
namespace Go.AB
open Go Go.RowKit
open Go.AB.Enc (cells)
open Go.PB (av aj PlaceD az bd bc bi am ah cc bg)
/-! ### Readers who miss less -/
end Go.AB
namespace Go.AB
open Go Go.RowKit
open Go.AB.Enc (cells)
open Go.PB (av aj PlaceD az bd bc bi am ah cc bg)
end Go.AB
namespace Go.AB
open Go Go.RowKit
open Go.AB.Enc (cells)
open Go.PB (av aj PlaceD az bd bc bi am ah cc bg)
end Go.AB
namespace Go.AB
open Go Go.RowKit
open Go.AB.Enc (cells)
open Go.PB (av aj PlaceD az bd bc bi am ah cc bg)
end Go.AB
namespace Go.AB
open Go Go.RowKit
open Go.AB.Enc (cells)
open Go.PB (av aj PlaceD az bd bc bi am ah cc bg)
/-- as much as can be on a page, if nothing is lost by it -/
theorem Net.pick_alone {N : Net} {R C : Nat → Int} {j : Nat} (h0 : 0 ≤ N.alone R C j) (h : N.most R C ≤ N.alone R C j + N.most (N.lessR R j (N.alone R C j)) (dw C j)) : N.pick R C j = N.alone R C j :=
 Net.pick_eq ⟨h0, Int.le_refl _, h, fun m h1 h2 => by omega⟩
def mb : ByteArray := ⟨#[116, 104, 101]⟩
def ip : ByteArray := ⟨#[115, 101, 97]⟩
def xIs : ByteArray := ⟨#[105, 115]⟩
def mc : ByteArray := ⟨#[111, 108, 100]⟩
def rh : ByteArray := ⟨#[97, 110, 100]⟩
def exTx : aj := [⟨7, [[mb, ip, xIs, mc], [mc, mb, ip]]⟩, ⟨3, [[ip, rh, ip]]⟩]
def exPg : List am := [⟨0, 0, 0, 0, [⟨0, 0, 0⟩], [⟨0, 0, 0⟩, ⟨0, 0, 3⟩]⟩, ⟨1, 2, 0, -1, [⟨0, 1, 1⟩], []⟩]
def exPr : ah := ⟨exTx, [⟨1, 50⟩, ⟨2, 0⟩], [⟨3, 60⟩], exPg⟩
theorem tx : fp exPr (ce exPr) = 0 := by decide +kernel
theorem xp_words : o4 exPr 1 = 6 ∧ du exPr 1 = 0 ∧ o4 exPr 0 = 4 ∧ du exPr 0 = 0 := ⟨by decide +kernel, by decide +kernel, by decide +kernel, by decide +kernel⟩
theorem xp_found : om exPr 0 = [⟨0, 0, 0⟩, ⟨0, 0, 3⟩] ∧ ou exPr 0 = [⟨0, 0, 0⟩] := ⟨by decide +kernel, by decide +kernel⟩
theorem xp_guess : nh exPr 0 = ⟨2, 2⟩ ∧ lg exPr 0 = 0 := ⟨by decide +kernel, by decide +kernel⟩
theorem xp_remain : o6 exPr 1 = ⟨0, 1⟩ ∧ fp exPr (du exPr 1) = 0 ∧ o6 exPr 0 = ⟨0, 1⟩ ∧ fp exPr (du exPr 0) = 0 := ⟨by decide +kernel, by decide +kernel, by decide +kernel, by decide +kernel⟩
theorem ue7 : p8 exPr = ⟨0, 1⟩ := by decide +kernel
theorem xp_why : my exPr (gj exPr) = [0] ∧ mf exPr (gj exPr) = [] := ⟨by decide +kernel, by decide +kernel⟩
theorem xp_bound : nm exPr false 0 = 4 ∧ jw exPr false 0 = 0 ∧ nm exPr false 1 = 0 ∧ jw exPr false 1 = 0 ∧ nm exPr true 0 = 5 ∧ jw exPr true 0 = 0 := ⟨by decide +kernel, by decide +kernel, by decide +kernel, by decide +kernel, by decide +kernel, by decide +kernel⟩
theorem xp_chief : jr exPr 0 = [0, 1] ∧ ix exPr 0 = 0 ∧ jr exPr 1 = [] ∧ ix exPr 1 = 0 := ⟨by decide +kernel, by decide +kernel, by decide +kernel, by decide +kernel⟩
theorem ue6 : o1 exPr = [1, 0] := by
 have h0 : i6 exPr 0 = 1 := by
  have := Net.pick_alone (N := br exPr) (R := cn exPr) (C := c7 exPr) (j := 0) (by decide +kernel) (by decide +kernel)
  exact this.trans (by decide +kernel)
 have h1 : i6 exPr 1 = 0 := by
  have e : i6 exPr 1 = (br exPr).pick ((br exPr).lessR (cn exPr) 0 1) (dw (c7 exPr) 0) 1 := by
   show (br exPr).pick ((br exPr).lessR (cn exPr) 0 (i6 exPr 0)) (dw (c7 exPr) 0) 1 = _
   rw [h0]
  have := Net.pick_alone (N := br exPr) (R := (br exPr).lessR (cn exPr) 0 1) (C := dw (c7 exPr) 0) (j := 1) (by decide +kernel) (by decide +kernel)
  exact e.trans (this.trans (by decide +kernel))
 unfold o1
 rw [tx]
 show [i6 exPr 0, i6 exPr 1] = _
 rw [h0, h1]
end Go.AB
namespace Go.AB
open Go Go.RowKit
open Go.AB.Enc (cells)
open Go.PB (av aj PlaceD az bd bc bi am ah cc bg)
/-- who is found by one reader alone, so far -/
def fl (F W : List PlaceD) (q : PlaceD) : Bool := decide (q ∈ F) != decide (q ∈ W)
theorem uiz (F : List PlaceD) (q : PlaceD) : fl F [] q = decide (q ∈ F) := by simp [fl]
theorem w4 {l : List PlaceD} (h : l.Pairwise fun a b => eh (cm a) (cm b) < 0) : l.Nodup := h.imp fun {a b} hab e => by
 rw [mu (by rfl)] at hab
 subst e
 exact n8 _ hab
theorem uf7 {l : List PlaceD} (h : l.Nodup) {k : Nat} {q : PlaceD} (hq : l[k]? = some q) : q ∉ l.take k := fun hm => by
 obtain ⟨i, hi⟩ := List.getElem?_of_mem hm
 have hik : i < k := by have := (List.getElem?_eq_some_iff.1 hi).1; rw [List.length_take] at this; omega
 rw [List.getElem?_take_of_lt hik] at hi
 obtain ⟨h1, h2⟩ := List.getElem?_eq_some_iff.1 hi
 obtain ⟨h3, h4⟩ := List.getElem?_eq_some_iff.1 hq
 have := (List.pairwise_iff_getElem.1 h) i k h1 h3 hik
 exact this (h2.trans h4.symm)
/-- the place at hand is in the map if the first reader found it -/
theorem ut {F W : List PlaceD} (hW : W.Nodup) {k : Nat} {q : PlaceD} (hq : W[k]? = some q) : fl F (W.take k) q = decide (q ∈ F) := by
 unfold fl
 rw [decide_eq_false (uf7 hW hq)]
 cases decide (q ∈ F) <;> rfl
theorem ubl {F W : List PlaceD} (hW : W.Nodup) {k : Nat} {q : PlaceD} (hq : W[k]? = some q) (x : PlaceD) : fl F (W.take (k + 1)) x = bif decide (x = q) then !decide (q ∈ F) else fl F (W.take k) x := by
 have hm : decide (x ∈ W.take (k + 1)) = (decide (x ∈ W.take k) || decide (x = q)) := by
  rw [List.take_add_one, hq, Option.toList_some, Bool.eq_iff_iff]
  simp
 by_cases e : x = q
 ·subst e
  unfold fl
  rw [hm, decide_eq_true (rfl : x = x), Bool.or_true, cond_true]
  cases decide (x ∈ F) <;> rfl
 ·unfold fl
  rw [hm, decide_eq_false e, Bool.or_false, cond_false]
/-- what both found so far -/
def l8 (F W : List PlaceD) (k : Nat) : List PlaceD := (W.take k).filter fun q => decide (q ∈ F)
theorem ud6 {F W : List PlaceD} {k : Nat} {q : PlaceD} (hq : W[k]? = some q) : l8 F W (k + 1) = l8 F W k ++ bif decide (q ∈ F) then [q] else [] := by
 unfold l8
 rw [List.take_add_one, hq, Option.toList_some, List.filter_append]
 cases h : decide (q ∈ F) <;> simp [h]
theorem ud7 (F W : List PlaceD) (k : Nat) : (l8 F W k).length ≤ W.length := by
 unfold l8
 have := List.length_filter_le (fun q => decide (q ∈ F)) (W.take k)
 rw [List.length_take] at this
 omega
theorem uma {p : ah} {last : Int} {x : am} (h : ky p last x) : l8 x.found x.well x.well.length = cj p.text x := by
 have hs : (l8 x.found x.well x.well.length).Pairwise fun a b => eh (cm a) (cm b) < 0 := by
  unfold l8
  rw [List.take_length]
  exact (vo h.well).filter _
 refine ue hs (vp _) fun q => ?_
 unfold l8
 rw [List.take_length, List.mem_filter, decide_eq_true_eq]
 show _ ↔ q ∈ (ez p.text).filter _
 rw [List.mem_filter, Bool.and_eq_true, decide_eq_true_eq, decide_eq_true_eq, allQ_mem]
 exact ⟨fun ⟨h1, h2⟩ => ⟨(ly h.well h1).1, h2, h1⟩, fun ⟨_, h2, h3⟩ => ⟨h3, h2⟩⟩
/-- both's places, and those of one alone in any order, put in order: all that are found -/
theorem uer {p : ah} {last : Int} {x : am} (h : ky p last x) {ks s : List PlaceD} (hn : ks.Nodup) (hk : ∀ q, q ∈ ks ↔ fl x.found x.well q = true) (hp : s.Perm (cj p.text x ++ ks)) (hs : s.Pairwise fun a b => ¬ eh (cm b) (cm a) < 0) : s = dn p.text x := by
 have hmb : ∀ q, q ∈ cj p.text x ↔ q ∈ x.found ∧ q ∈ x.well := fun q => by
  show q ∈ (ez p.text).filter _ ↔ _
  rw [List.mem_filter, Bool.and_eq_true, decide_eq_true_eq, decide_eq_true_eq, allQ_mem]
  exact ⟨fun h => h.2, fun h2 => ⟨(ly h.well h2.2).1, h2⟩⟩
 have hko : ∀ q, fl x.found x.well q = true ↔ (q ∈ x.found ∧ q ∉ x.well) ∨ (q ∉ x.found ∧ q ∈ x.well) := fun q => by
  unfold fl
  by_cases h1 : q ∈ x.found <;> by_cases h2 : q ∈ x.well <;> simp [h1, h2]
 have hnd : (cj p.text x ++ ks).Nodup := by
  rw [List.nodup_append]
  refine ⟨w4 (vp _), hn, fun a ha b hb e => ?_⟩
  subst e
  have h1 := (hmb a).1 ha
  rcases (hko a).1 ((hk a).1 hb) with h2 | h2
  ·exact h2.2 h1.2
  ·exact h2.1 h1.1
 have hsn : s.Nodup := hp.nodup_iff.2 hnd
 have hs2 : s.Pairwise fun a b => eh (cm a) (cm b) < 0 := by
  have := List.Pairwise.and hs hsn
  refine this.imp fun {a b} hab => ?_
  rw [mu (by rfl)] at hab ⊢
  refine Classical.byContradiction fun hno => hab.2 ?_
  exact ukk (x6 (by rfl) hno hab.1)
 refine ue hs2 (vp _) fun q => ?_
 rw [hp.mem_iff, List.mem_append, hmb, hk, hko]
 show _ ↔ q ∈ (ez p.text).filter _
 rw [List.mem_filter, Bool.or_eq_true, decide_eq_true_eq, decide_eq_true_eq, allQ_mem]
 constructor
 ·rintro (⟨h1, h2⟩ | ⟨h1, _⟩ | ⟨_, h2⟩)
  ·exact ⟨(ly h.found h1).1, .inl h1⟩
  ·exact ⟨(ly h.found h1).1, .inl h1⟩
  ·exact ⟨(ly h.well h2).1, .inr h2⟩
 ·rintro ⟨_, h1 | h1⟩
  ·by_cases h2 : q ∈ x.well
   ·exact .inl ⟨h1, h2⟩
   ·exact .inr (.inl ⟨h1, h2⟩)
  ·by_cases h2 : q ∈ x.found
   ·exact .inl ⟨h2, h1⟩
   ·exact .inr (.inr ⟨h2, h1⟩)
/-! ### The words of a page, line by line -/
def i7 (t : aj) (x : am) (l : List PlaceD) : Nat := (l.filter (gh t x)).length
theorem zl (t : aj) (x : am) {k n : Nat} {c : av} {l : List ByteArray} (hn : c.lines[n]? = some l) : i7 t x (gy t k c.lines (n + 1)) = i7 t x (gy t k c.lines n) + bif inB ((fa t k : Int) + (n : Int)) x.fr x.to then l.length else 0 := by
 have e : gy t k c.lines (n + 1) = gy t k c.lines n ++ (j1 k n l).map (·.1) := by
  unfold gy
  rw [udz k hn, List.map_append, List.append_assoc]
 unfold i7
 rw [e, List.filter_append, List.length_append]
 congr 1
 have hall : ∀ q ∈ (j1 k n l).map (·.1), gh t x q = inB ((fa t k : Int) + (n : Int)) x.fr x.to := fun q hq => by
  obtain ⟨y, hy, rfl⟩ := List.mem_map.1 hq
  obtain ⟨w, hw, rfl⟩ := List.mem_mapIdx.1 hy
  show inB (ph t ⟨(k : Int), (n : Int), (w : Int)⟩) x.fr x.to = _
  unfold ph
  dsimp only
  rw [Int.toNat_natCast, Int.add_comm]
 have hlen : ((j1 k n l).map (·.1)).length = l.length := by rw [List.length_map]; unfold j1; rw [List.length_mapIdx]
 cases hb : inB ((fa t k : Int) + (n : Int)) x.fr x.to
 ·rw [List.filter_eq_nil_iff.2 fun q hq => by rw [hall q hq, hb]; simp]; rfl
 ·rw [List.filter_eq_self.2 fun q hq => by rw [hall q hq, hb], hlen]; rfl
theorem ufh (t : aj) (x : am) : i7 t x (ez t) = er t x := rfl
end Go.AB
namespace Go.AB
open Go Go.RowKit
open Go.AB.Enc (cells)
open Go.PB (av aj PlaceD az bd bc bi am ah cc bg)
section
variable {N : Net} {R C : Nat → Int}
end
end Go.AB
namespace Go.PB
structure ct where
 readers : List Int
 pages : List Int
 read : List (List Int)
/-- the reference's: readers and pages alone -/
structure cw where
 readers : List Int
 pages : List Int
end Go.PB
namespace Go.AB
open Go Go.RowKit
open Go.AB.Enc (cells)
open Go.PB (av aj PlaceD az bd bc bi am ah cc bg ct cw)
instance : Enc ct := ⟨fun x => [lst x.readers, lst x.pages, lst x.read], 3, fun _ => rfl, fun m x c h => by
 simp only [List.mem_cons, List.not_mem_nil, or_false] at h
 rcases h with rfl | rfl | rfl
 ·exact bj m _
 ·exact bj m _
 ·exact bj m _, fun x c h => by
 simp only [List.mem_cons, List.not_mem_nil, or_false] at h; rcases h with rfl | rfl | rfl <;> rfl⟩
def fk (p : ah) (R C : Nat → Int) : ct := ⟨cd (bw p) R, cd p.pages.length C, p.pages.map (cx p)⟩
/-- numbers that no sum of takes too far -/
structure Bd (p : ah) (R C : Nat → Int) : Prop where
 r : ∀ i, -1000000 ≤ R i ∧ R i ≤ 1000000
 c : ∀ j, 0 ≤ C j ∧ C j ≤ 1000000
 nr : bw p ≤ 6
 np : p.pages.length ≤ 8
theorem tn {p : ah} (h : e8 p) : Bd p (cn p) (c7 p) := ⟨fun i => by have := uj9 h i; omega, fun j => by have := ul5 h j; omega, by have := h.nf; have := h.ns; unfold bw; omega, h.np⟩
/-- what some first readers of a set have -/
def fR (R : Nat → Int) (S : Nat → Bool) (i : Nat) : Int := sm i fun k => bif S k then R k else 0
def fC (p : ah) (C : Nat → Int) (S : Nat → Bool) (j : Nat) : Int := sm j fun k => bif (br p).hit S k then 0 else C k
theorem uc9 (p : ah) (R C : Nat → Int) (S : Nat → Bool) : (br p).f R C S = fR R S (bw p) + fC p C S p.pages.length := rfl
theorem w5 {g : Nat → Int} {m : Int} (h : ∀ i, -m ≤ g i ∧ g i ≤ m) : ∀ n : Nat, -(n * m) ≤ sm n g ∧ sm n g ≤ n * m
 | 0 => by simp [sm]
 | n + 1 => by
  have h1 := w5 h n
  have h2 := h n
  have e : ((n + 1 : Nat) : Int) * m = (n : Int) * m + m := by rw [Int.natCast_add, Int.add_mul]; simp
  simp only [sm]
  omega
theorem yn {p : ah} {R C : Nat → Int} (h : Bd p R C) (S : Nat → Bool) (i : Nat) (hi : i ≤ bw p) : -6000000 ≤ fR R S i ∧ fR R S i ≤ 6000000 := by
 have := w5 (g := fun k => bif S k then R k else 0) (m := 1000000) (fun k => by cases S k; simp; exact h.r k) i
 have := h.nr
 unfold fR
 omega
theorem ude {p : ah} {R C : Nat → Int} (h : Bd p R C) (S : Nat → Bool) (j : Nat) (hj : j ≤ p.pages.length) : 0 ≤ fC p C S j ∧ fC p C S j ≤ 8000000 := by
 have h1 := w5 (g := fun k => bif (br p).hit S k then 0 else C k) (m := 1000000) (fun k => by have := h.c k; cases (br p).hit S k; simp; omega; simp) j
 have h2 := ugm (n := j) (g := fun k => bif (br p).hit S k then 0 else C k) fun k _ => by have := h.c k; cases (br p).hit S k; exact this.1; exact Int.le_refl _
 have := h.np
 unfold fC
 omega
theorem f_bd {p : ah} {R C : Nat → Int} (h : Bd p R C) (S : Nat → Bool) : -6000000 ≤ (br p).f R C S ∧ (br p).f R C S ≤ 14000000 := by
 have h1 := yn h S _ (Nat.le_refl _)
 have h2 := ude h S _ (Nat.le_refl _)
 rw [uc9]
 omega
theorem ub5 {g : Nat → Int} {a b : Int} (h : ∀ s, a ≤ g s ∧ g s ≤ b) (k : Nat) : a ≤ lf g k ∧ lf g k ≤ b := by
 obtain ⟨s, _, e⟩ := xz (g := g) k
 rw [e]
 exact h s
theorem ub1 {p : ah} {R C : Nat → Int} (h : Bd p R C) : -6000000 ≤ (br p).most R C ∧ (br p).most R C ≤ 14000000 := ub5 (fun s => f_bd h _) _
end Go.AB
namespace Go.AB
open Go Go.RowKit
open Go.AB.Enc (cells)
section
variable {P : Program} {o : Oper} {st : St} {K : St → Prop}
end
end Go.AB
namespace Go.AB
open Go Go.RowKit Go.Shelf Go.Proofs
open Go.AB.Enc (cells)
section
variable {P : Program} {o : Oper} {st : St} {K : St → Prop}
theorem uir {E : Env} {w : World} {v : Value} {n ver len : Nat} (hp : R E w (.own n ver len) v) : ∃ a cap, v = .slice a len cap ∧ n < E.nx ∧ len ≤ cap ∧ cap ≤ maxLen ∧ ∀ ver' wv val, E.T n = some (ver', wv, val) → ver ≤ ver' ∧ (ver = ver' → ∃ m, len ≤ m ∧ val = .slice a m cap) := by
 cases hp with
 | own h1 h2 h3 h4 => exact ⟨_, _, rfl, h1, h2, h3, h4⟩
/-- append of nothing onto an own slice. -/
theorem ujl {t e : TypeId} {sz bytes n ver m : Nat} [AppT P t e sz bytes] {s x : Operand} {tk : Tok} (ho : o.op = .call { callee := .builtin .append, args := #[s, x], argTypes := #[t, t] }) (hs : evC st s = .own n ver m) (hx : evC st x = .list [] tk) : NStep P o st (.own n ver m) := fun E w a hsim => by
 obtain ⟨ht, i, z, hie, hz, h1, h2, h3⟩ := AppT.spec (P := P) (t := t) (e := e) (sz := sz) (bytes := bytes)
 have hown := hs ▸ hsim.ev s
 obtain ⟨ad, cap, e1, q1, q2, q3, q4⟩ := uir hown
 obtain ⟨ao, c, _, _, e3, _⟩ := (hx ▸ hsim.ev x).list_inv
 refine ⟨a.eval s, hown, fun w' => ?_⟩
 have hrun := rx (P := P) w' t o.type e i ht hie ad ao m cap c q2
 simp only [execOp, ho, resolve, invoke, builtin, Sem.run_bind, Sem.run_pure, Result.andThen_ok, List.map_toArray, List.map_cons, List.map_nil, e1, e3]
 rw [List.length_nil] at *
 rw [hrun]; rfl
/-- append of data onto an own slice. -/
theorem vr {α : Type} [Enc α] {t e : TypeId} {bytes n ver wv : Nat} [AppT P t e (Enc.n α) bytes] {s x : Operand} {tk : Tok} {rows : List (List C)} {xs : List α} {m : Nat} {cs : List C} (ys : List α) (ho : o.op = .call { callee := .builtin .append, args := #[s, x], argTypes := #[t, t] }) (hs : evC st s = .own n ver m) (hG : st.G n = some (.arr ver wv e (Enc.n α) m cs)) (hc : cs = cy xs) (hm : m = xs.length) (hx : evC st x = .list rows tk) (hy : rows = ys.map cells) (hb : (xs.length + ys.length) * bytes ≤ 140737488355328) (hmax : xs.length + ys.length ≤ 9223372036854775807)
  (h : ∀ v : Nat, K (St.put { st with G := ak st.G n (.arr v wv e (Enc.n α) (xs ++ ys).length (cy (xs ++ ys))) } o.dst (.own n v (xs ++ ys).length))) : EStep P o st K := by
 subst hc; subst hm; subst hy
 by_cases h0 : ys = []
 ·subst h0
  have h1 := h ver
  simp only [List.append_nil] at h1
  have h2 : ak st.G n (.arr ver wv e (Enc.n α) xs.length (cy xs)) = st.G := by
   funext k
   simp only [ak]
   split
   ·rename_i e; rw [e, hG]
   ·rfl
  rw [h2] at h1
  exact SStep.e' (NStep.s (D := fun _ => True) (ujl ho hs hx)) h1
 ·refine uln ho hs hG hx (lu ys) (by simpa using hb) (by simpa using hmax) (by simpa using h0) ?_
  have h1 := h (ver + 1)
  rw [uc4] at h1
  simpa [cy] using h1
end
end Go.AB
namespace Go.AB
open Go Go.RowKit
open Go.AB.Enc (cells)
open Go.PB (av aj PlaceD az bd bc bi am ah cc bg ct cw)
/-- the first of some numbers that is not nought -/
def orN (xs : List Int) : Int := (xs.find? fun x => !decide (x = 0)).getD 0
theorem uit {xs : List Int} {k : Nat} {x : Int} (hx : xs[k]? = some x) (hne : x ≠ 0) (h : ∀ y ∈ xs.take k, y = 0) : orN xs = x := by
 unfold orN
 rw [List.find?_eq_some_iff_append.2 ⟨by simpa using hne, xs.take k, xs.drop (k + 1), ?_, fun y hy => by simp [h y hy]⟩]
 ·rfl
 obtain ⟨h1, h2⟩ := List.getElem?_eq_some_iff.1 hx
 rw [← h2, ← List.drop_eq_getElem_cons h1, List.take_append_drop]
theorem uiv {xs : List Int} (h : ∀ y ∈ xs, y = 0) : orN xs = 0 := by
 unfold orN
 rw [List.find?_eq_none.2 fun y hy => by simp [h y hy]]
 rfl
theorem ujr {α : Type} {l : List α} {k : Nat} {x : α} {p : α → Prop} (hx : l[k]? = some x) (hp : p x) (h : ∀ y ∈ l.take k, p y) : ∀ y ∈ l.take (k + 1), p y := fun y hy => by
 rw [List.take_add_one, hx] at hy
 simp only [Option.toList_some, List.mem_append, List.mem_singleton] at hy
 rcases hy with hy | rfl
 ·exact h y hy
 exact hp
def k8 (a b : PlaceD) : Int := eh (cm a) (cm b)
theorem uiu (a b : PlaceD) : orN [gm a.ch b.ch, gm a.ln b.ln, gm a.wd b.wd] = k8 a b := by
 unfold orN k8 cm
 simp only [eh]
 by_cases h1 : gm a.ch b.ch = 0
 ·by_cases h2 : gm a.ln b.ln = 0
  ·by_cases h3 : gm a.wd b.wd = 0 <;> simp [h1, h2, h3]
  simp [h1, h2]
 simp [h1]
/-- the order of lists, shorter ones first -/
def w7 (a b : List Int) : Int := orN [(a.length : Int) - (b.length : Int), eh a b]
theorem uh (a b : List Int) : decide (w7 a b < 0) = ig a b := by
 unfold w7 orN ig
 by_cases h1 : (a.length : Int) - (b.length : Int) = 0
 ·have h2 : a.length = b.length := by omega
  have h3 : ¬ a.length < b.length := by omega
  by_cases h4 : eh a b = 0
  ·simp [h2, h4]
  simp [h2, h4]
 have h2 : ¬ a.length = b.length := by omega
 by_cases h3 : a.length < b.length
 ·have : (a.length : Int) - (b.length : Int) < 0 := by omega
  simp [h1, h2, h3, this]
 have : ¬ (a.length : Int) - (b.length : Int) < 0 := by omega
 simp [h1, h2, h3, this]
def lk (t : aj) (k : Nat) : List Int := (List.range k).map fun i => (fa t i : Int)
theorem zx (t : aj) (k : Nat) : (lk t k).length = k := by simp [lk]
theorem zy {t : aj} {k i : Nat} (h : i < k) : (lk t k)[i]? = some (fa t i : Int) := by simp [lk, h]
theorem ugj (t : aj) (k : Nat) : lk t (k + 1) = lk t k ++ [(fa t k : Int)] := by
 unfold lk
 rw [List.range_succ, List.map_append]; rfl
theorem uc {t : aj} (ht : c6 t = true) (k : Nat) (hk : k ≤ t.length) : fa t k ≤ 60 := by
 obtain ⟨h1, h2, h3⟩ := kz ht
 have key : ∀ k, k ≤ t.length → fa t k ≤ 10 * k := by
  intro k
  induction k with
  | zero => intro _; rw [zz]; exact Nat.zero_le _
  | succ k ih =>
   intro hk
   have hc : t[k]? = some t[k] := List.getElem?_eq_getElem (by omega)
   rw [ro hc]
   have := ih (by omega)
   have := (h3 _ (ga hc)).2.1
   omega
 have := key k hk
 omega
end Go.AB
namespace Go.Proofs.YtbbdginipiljdaaDoor
set_option maxRecDepth 10000
open Go.RowKit Go.AB
open Go.AB.Enc (cells)
open Go.PB (av aj PlaceD az bd bc bi am ah cc bg ct cw)
theorem ua9 (xs : List Int) : Pure Tryd.prog 87 [lst xs] (.v (.int .i64 (orN xs))) := by
 refine co Tryd.func87 rfl (fun m => .v) fun G nx => ?_
 simp only [Tryd.ntmps87, List.length_cons, List.length_nil, Nat.reduceAdd, Nat.reduceSub]
 refine bl fun hlt => ?_
 dsimp only at hlt
 refine kr 0 (fun hf => ?_)
 replace hf := (fit_lst.1 hf).1
 refine yS fun _ K1 => ?_
 refine yR ?_
 refine yA rfl rfl ?_
 refine yN ?_
 dsimp only [St.put]
 refine K1 _ ?_
 refine yS fun _ K2 => ?_
 refine yR ?_
 refine yA rfl rfl ?_
 refine yN ?_
 dsimp only [St.put]
 refine K2 _ ?_
 refine yS fun _ K3 => ?_
 refine yS fun _ K4 => ?_
 refine yR ?_
 refine yM rfl rfl ?_
 refine aa rfl (bf rfl rfl (List.length_map _)) ?_
 refine yM rfl rfl ?_
 refine yN ?_
 dsimp only [St.put]
 refine K4 _ ?_
 refine bh ?_
 refine ck 9 ?_
 refine zQ ?_
 refine dd (G) zX ?_
 dsimp only
 refine dc (X := Nat) (fun k => k ≤ xs.length ∧ ∀ y ∈ xs.take k, y = 0) (fun k => xs.length - k) (fun k => [(4, .any), (5, .any), (8, .v (.int .i64 (k : Int)))]) (fun k G' => G') 0 rfl ?_ ?_ (fun _ _ h => h) ?_ ?_ ?_
 ·exact ⟨by simp, by simp⟩
 ·exact zF
 ·rintro k hI
  exact zL
 ·exact fun _ _ _ _ h => .inl h
 rintro k hI
 dsimp only at hI ⊢
 refine yS fun _ K5 => ?_
 refine yR ?_
 refine aa rfl (ci rfl rfl rfl) ?_
 refine yN ?_
 dsimp only [St.put]
 refine K5 _ ?_
 refine yS fun _ K6 => ?_
 refine ar rfl (fun hc => ?_) (fun hc => ?_)
 ·replace hc := of_decide_eq_true hc
  obtain ⟨x, hx⟩ : ∃ x, xs[k]? = some x := dj (by omega)
  refine ax ?_
  refine K6 _ ?_
  refine yS fun _ K7 => ?_
  refine bh ?_
  refine yS fun _ K8 => ?_
  refine yR ?_
  refine aa rfl (bu rfl rfl rfl rfl (bp (by assumption)) (Enc.len _)) ?_
  refine yL rfl rfl rfl ?_
  refine yA rfl rfl ?_
  refine yN ?_
  dsimp only [St.put]
  refine K8 _ ?_
  refine yS fun _ K9 => ?_
  refine yR ?_
  refine yM rfl rfl ?_
  refine yM rfl rfl ?_
  refine aa rfl (fm rfl rfl rfl) ?_
  refine yN ?_
  dsimp only [St.put]
  refine K9 _ ?_
  refine ar rfl (fun hc => ?_) (fun hc => ?_)
  ·replace hc := jm hc
   refine yS fun _ K10 => ?_
   refine yR ?_
   refine yM rfl rfl ?_
   refine yA rfl rfl ?_
   refine yN ?_
   dsimp only [St.put]
   refine K10 _ ?_
   refine aq ?_
   refine ba rfl (by constructor) zN zS ?_
   exact vi (uit hx hc hI.2).symm
  replace hc := gp hc
  refine ax ?_
  refine K7 _ ?_
  refine yR ?_
  refine aa rfl (ca rfl rfl rfl (by omega)) ?_
  refine yM rfl rfl ?_
  refine yN ?_
  dsimp only [St.put]
  exact ⟨k + 1, by omega, ⟨by omega, ujr hx hc hI.2⟩, ⟨⟨rfl, rfl⟩, zF, zB, zN, zX⟩⟩
 try replace hc := of_decide_eq_false hc
 refine c5 ?_
 refine K3 _ ?_
 refine yS fun _ K11 => ?_
 refine yR ?_
 refine yM rfl rfl ?_
 refine yA rfl rfl ?_
 refine yN ?_
 dsimp only [St.put]
 refine K11 _ ?_
 refine aq ?_
 refine ba rfl (by constructor) zN zS ?_
 exact vi (by
  rw [uiv]
  have := hI.2
  rwa [gg (by omega)] at this)
theorem uil (n lo hi : Int) : Pure Tryd.prog 81 [.v (.int .i64 n), .elem [.v (.int .i64 lo)], .elem [.v (.int .i64 hi)]] (.v (.bool (lm n lo hi))) := by
 refine co Tryd.func81 rfl (fun m => .v) fun G nx => ?_
 simp only [Tryd.ntmps81, List.length_cons, List.length_nil, Nat.reduceAdd, Nat.reduceSub]
 refine bl fun hlt => ?_
 dsimp only at hlt
 refine yS fun _ K1 => ?_
 refine yR ?_
 refine yA rfl rfl ?_
 refine yN ?_
 dsimp only [St.put]
 refine K1 _ ?_
 refine yS fun _ K2 => ?_
 refine yR ?_
 refine yM rfl rfl ?_
 refine yL rfl rfl rfl ?_
 refine aa rfl (ci rfl rfl rfl) ?_
 refine ef (fun hs => ?_) (fun hs => ?_)
 ·try replace hs := of_decide_eq_true hs
  refine yM rfl rfl ?_
  refine yK rfl ?_
  refine yK rfl ?_
  refine yK rfl ?_
  refine aa rfl (bk rfl rfl (by constructor)) ?_
  refine yA rfl rfl ?_
  refine yN ?_
  dsimp only [St.put]
  refine K2 _ ?_
  refine aq ?_
  refine ba rfl (by constructor) zN zS ?_
  exact vb (by simp [lm, hs]; try omega)
 try replace hs := of_decide_eq_false hs
 refine yM rfl rfl ?_
 refine yM rfl rfl ?_
 refine yL rfl rfl rfl ?_
 refine aa rfl (gr rfl rfl rfl) ?_
 refine aa rfl (cg rfl rfl (by constructor)) ?_
 refine yA rfl rfl ?_
 refine yN ?_
 dsimp only [St.put]
 refine K2 _ ?_
 refine aq ?_
 refine ba rfl (by constructor) zN zS ?_
 exact vb (by simp [lm, hs]; try omega)
theorem mj (lo hi : Int) (xs : List Int) : Pure Tryd.prog 48 [.v (.int .i64 lo), .v (.int .i64 hi), lst xs] (.v (.bool (vg lo hi xs))) := by
 refine co Tryd.func48 rfl (fun m => .v) fun G nx => ?_
 simp only [Tryd.ntmps48, List.length_cons, List.length_nil, Nat.reduceAdd, Nat.reduceSub]
 refine bl fun hlt => ?_
 dsimp only at hlt
 refine yS fun _ K1 => ?_
 refine yR ?_
 try dsimp only [St.put]
 refine yB rfl rfl rfl ?_
 try dsimp only [St.put]
 refine yB rfl rfl rfl ?_
 refine yA rfl rfl ?_
 refine yN ?_
 dsimp only [St.put]
 refine K1 _ ?_
 refine yS fun _ K2 => ?_
 refine yR ?_
 refine yM rfl rfl ?_
 refine aa rfl (pc rfl rfl) ?_
 try dsimp only [St.put]
 refine ae rfl (ay rfl rfl rfl (wa xs (fun n => lm n lo hi) _ _ fun x _ => uil x lo hi) ?_)
 refine aa rfl (dp rfl rfl) ?_
 refine yA rfl rfl ?_
 refine yN ?_
 dsimp only [St.put]
 refine K2 _ ?_
 refine aq ?_
 refine ba rfl (by constructor) zN zS ?_
 rfl
theorem xj (a b : PlaceD) : Pure Tryd.prog 75 [val a, val b] (.v (.int .i64 (k8 a b))) := by
 refine co Tryd.func75 rfl (fun m => .v) fun G nx => ?_
 simp only [Tryd.ntmps75, List.length_cons, List.length_nil, Nat.reduceAdd, Nat.reduceSub]
 refine bl fun hlt => ?_
 dsimp only at hlt
 refine yS fun _ K1 => ?_
 refine yR ?_
 try dsimp only [St.put]
 refine yB rfl rfl rfl ?_
 try dsimp only [St.put]
 refine yB rfl rfl rfl ?_
 refine yA rfl rfl ?_
 refine yN ?_
 dsimp only [St.put]
 refine K1 _ ?_
 refine yS fun _ K2 => ?_
 refine gn [(0, none), (1, none), (2, none), (3, none), (5, none), (6, none), (7, none), (8, none), (10, none), (11, none), (12, none), (13, none), (4, none), (9, none), (14, none), (15, none), (16, none), (17, none)] (fun i => [14, 15, 16].contains i) (fun i => [4, 9, 14, 15, 16].contains i) (fun i => [0, 2, 5, 7, 10, 12, 17].contains i) [] (by kernel_rfl) (by kernel_rfl) ?_
 refine af rfl rfl rfl rfl (bx rfl rfl rfl) ?_
 try dsimp only [St.put]
 refine aw rfl rfl rfl rfl (bn rfl rfl) ?_
 refine af rfl rfl rfl rfl (bx rfl rfl rfl) ?_
 try dsimp only [St.put]
 refine aw rfl rfl rfl rfl (bn rfl rfl) ?_
 refine af rfl rfl rfl rfl (bx rfl rfl rfl) ?_
 try dsimp only [St.put]
 refine aw rfl rfl rfl rfl (bn rfl rfl) ?_
 refine af rfl rfl rfl rfl (bx rfl rfl rfl) ?_
 try dsimp only [St.put]
 refine aw rfl rfl rfl rfl (bn rfl rfl) ?_
 refine af rfl rfl rfl rfl (bx rfl rfl rfl) ?_
 try dsimp only [St.put]
 refine aw rfl rfl rfl rfl (bn rfl rfl) ?_
 refine af rfl rfl rfl rfl (bx rfl rfl rfl) ?_
 try dsimp only [St.put]
 refine aw rfl rfl rfl rfl (bn rfl rfl) ?_
 refine ji ?_
 try dsimp only [St.put]
 refine j7 rfl rfl rfl (ay rfl rfl rfl (vu _ _) ⟨zD, ?_⟩)
 try dsimp only [St.put]
 refine j7 rfl rfl rfl (ay rfl rfl rfl (vu _ _) ⟨zD, ?_⟩)
 try dsimp only [St.put]
 refine ij rfl rfl rfl rfl (ay rfl rfl rfl (vu _ _) ?_)
 try dsimp only [St.put]
 refine ij rfl rfl rfl rfl (dl rfl rfl rfl (by decide) (by decide) zR (by decide) ?_)
 try dsimp only [St.put]
 refine ij rfl rfl rfl rfl (ay rfl rfl rfl (ua9 [gm a.ch b.ch, gm a.ln b.ln, gm a.wd b.wd]) ?_)
 refine d7 rfl rfl rfl rfl (fe rfl (by constructor)) ?_
 refine jh ?_
 dsimp only [St.put]
 refine K2 _ ?_
 refine aq ?_
 refine ba rfl (by constructor) zN zS ?_
 exact vi (uiu a b)
theorem uig (a b : List Int) (ha : a.length ≤ 1000) (hb : b.length ≤ 1000) : Pure Tryd.prog 59 [lst a, lst b] (.v (.int .i64 (w7 a b))) := by
 refine co Tryd.func59 rfl (fun m => .v) fun G nx => ?_
 simp only [Tryd.ntmps59, List.length_cons, List.length_nil, Nat.reduceAdd, Nat.reduceSub]
 refine bl fun hlt => ?_
 dsimp only at hlt
 refine yS fun _ K1 => ?_
 refine yR ?_
 refine yA rfl rfl ?_
 refine yN ?_
 dsimp only [St.put]
 refine K1 _ ?_
 refine yS fun _ K2 => ?_
 refine yR ?_
 refine yM rfl rfl ?_
 refine aa rfl (bf rfl rfl (List.length_map _)) ?_
 refine yM rfl rfl ?_
 refine aa rfl (bf rfl rfl (List.length_map _)) ?_
 refine aa rfl (gq rfl rfl rfl (by omega)) ?_
 refine yM rfl rfl ?_
 refine yM rfl rfl ?_
 try dsimp only [St.put]
 refine ae rfl (ay rfl rfl rfl (uls a b ha hb) ?_)
 try dsimp only [St.put]
 refine ae rfl (dl rfl rfl rfl (by decide) (by decide) zR (by decide) ?_)
 try dsimp only [St.put]
 refine ae rfl (ay rfl rfl rfl (ua9 [(a.length : Int) - (b.length : Int), eh a b]) ?_)
 refine yA rfl rfl ?_
 refine yN ?_
 dsimp only [St.put]
 refine K2 _ ?_
 refine aq ?_
 refine ba rfl (by constructor) zN zS ?_
 rfl
theorem uif (t : aj) (q : PlaceD) (ht : c6 t = true) : Pure Tryd.prog 74 [ir t, val q] (.v (.bool (eu t q))) := by
 refine co Tryd.func74 rfl (fun m => .v) fun G nx => ?_
 simp only [Tryd.ntmps74, List.length_cons, List.length_nil, Nat.reduceAdd, Nat.reduceSub]
 refine bl fun hlt => ?_
 dsimp only at hlt
 obtain ⟨hl1, hl2, hl3⟩ := kz ht
 refine yS fun _ K1 => ?_
 refine yR ?_
 try dsimp only [St.put]
 refine yB rfl rfl rfl ?_
 try dsimp only [St.put]
 refine yB rfl rfl rfl ?_
 refine yA rfl rfl ?_
 refine yN ?_
 dsimp only [St.put]
 refine K1 _ ?_
 refine yS fun _ K2 => ?_
 refine ck 5 ?_
 refine zQ ?_
 refine ku (X := Bool) (fun b => b = !(ge t (q.ch, q.ln)).isSome) (fun b => [(29, .v (.bool b))]) (fun b G' => G') rfl ?_ (fun _ _ _ _ h => .inl h) ?_ ?_
 ·rintro b hI
  exact zL
 ·refine qu [(0, none), (1, none), (2, none), (3, none), (4, none), (5, none)] (fun _ => false) (fun i => [0, 2, 3, 4].contains i) 19 (rl [6, 19]) (by kernel_rfl) (by kernel_rfl) ?_
  refine af rfl rfl rfl rfl (bx rfl rfl rfl) ?_
  try dsimp only [St.put]
  refine aw rfl rfl rfl rfl (bn rfl rfl) ?_
  refine af rfl rfl rfl rfl (bf rfl rfl (List.length_map _)) ?_
  refine af rfl rfl rfl rfl (gq rfl rfl rfl (by omega)) ?_
  refine af rfl rfl rfl rfl (bx rfl rfl rfl) ?_
  try dsimp only [St.put]
  refine aw rfl rfl rfl rfl (bn rfl rfl) ?_
  refine bz ?_
  refine di [6] (by kernel_rfl) (by simp) ?_
  refine dh ?_ ?_
  ·try dsimp only [St.put]
   refine ii rfl rfl rfl (dl rfl rfl rfl (by decide) (by decide) zR (by decide) ?_)
   refine di [7] (by kernel_rfl) (by simp) ?_
   refine dh ?_ ?_
   ·try dsimp only [St.put]
    refine ii rfl rfl rfl (ay rfl rfl rfl (mj _ _ [_]) ?_)
    refine dx [(8, none), (9, none), (10, none), (11, none), (12, none), (13, none), (14, none), (15, none), (16, none), (17, none), (18, none), (19, none), (20, none)] (fun i => [8, 9, 10, 12, 14, 15, 17, 18, 19].contains i) 4 (rl [21, 4]) (by kernel_rfl) ?_
    refine af rfl rfl rfl rfl (dp rfl rfl) ?_
    refine xM rfl rfl rfl rfl rfl ?_
    refine i4 (fun hs => ?_) (fun hs => ?_)
    ·have h8 : inB q.ch 0 ((t.length : Int) - 1) = false := by rw [fq] at hs; simpa using hs
     refine ai rfl rfl rfl ?_
     refine ai rfl rfl rfl ?_
     refine ai rfl rfl rfl ?_
     refine ai rfl rfl rfl ?_
     refine ai rfl rfl rfl ?_
     refine ai rfl rfl rfl ?_
     refine ai rfl rfl rfl ?_
     refine ai rfl rfl rfl ?_
     refine ai rfl rfl rfl ?_
     refine ai rfl rfl rfl ?_
     refine ai rfl rfl rfl ?_
     refine bz ?_
     refine di [21] (by kernel_rfl) (by simp) ?_
     refine dh ?_ ?_
     ·refine fg rfl rfl rfl ?_
      refine di [22] (by kernel_rfl) (by simp) ?_
      refine dh ?_ ?_
      ·refine fg rfl rfl rfl ?_
       refine dx [(23, none), (24, none)] (fun i => [23, 24].contains i) 0 (rl [25]) (by kernel_rfl) ?_
       refine ai rfl rfl rfl ?_
       refine af rfl rfl rfl rfl (bk rfl rfl (by constructor)) ?_
       refine bz ?_
       dsimp only [St.put]
       refine gz (by kernel_rfl) ?_
       refine ⟨_, ?_, ⟨⟨rfl, rfl⟩, zF, zB, zN, zX⟩⟩
       rw [t8]
       (simp [h8]; done)
      exact dg
     exact dg
    have h8 : inB q.ch 0 ((t.length : Int) - 1) = true := by rw [fq] at hs; simpa using hs
    have hn1' := h8
    simp only [inB_true] at hn1'
    obtain ⟨c, hcx⟩ : ∃ c, t[q.ch.toNat]? = some c := dj (by omega)
    have hnl : kf t q.ch = c.lines.length := by simp [kf, hcx]
    have hll := (hl3 c (ga hcx)).2.1
    have hch : q.ch = ((q.ch.toNat : Nat) : Int) := by omega
    refine af rfl rfl rfl rfl (bx rfl rfl rfl) ?_
    try dsimp only [St.put]
    refine aw rfl rfl rfl rfl (bn rfl rfl) ?_
    refine af rfl rfl rfl rfl (bx rfl rfl rfl) ?_
    try dsimp only [St.put]
    refine aw rfl rfl rfl rfl (bn rfl rfl) ?_
    try dsimp only [St.put]
    refine af rfl rfl rfl rfl (bu rfl rfl rfl (by omega) (bp (by assumption)) (Enc.len _)) ?_
    refine af rfl rfl rfl rfl (bx rfl rfl rfl) ?_
    try dsimp only [St.put]
    refine aw rfl rfl rfl rfl (bn rfl rfl) ?_
    refine af rfl rfl rfl rfl (bf rfl rfl (List.length_map _)) ?_
    refine af rfl rfl rfl rfl (gq rfl rfl rfl (by omega)) ?_
    refine af rfl rfl rfl rfl (bx rfl rfl rfl) ?_
    try dsimp only [St.put]
    refine aw rfl rfl rfl rfl (bn rfl rfl) ?_
    refine bz ?_
    refine di [21] (by kernel_rfl) (by simp) ?_
    refine dh ?_ ?_
    ·try dsimp only [St.put]
     refine ii rfl rfl rfl (dl rfl rfl rfl (by decide) (by decide) zR (by decide) ?_)
     refine di [22] (by kernel_rfl) (by simp) ?_
     refine dh ?_ ?_
     ·try dsimp only [St.put]
      refine ii rfl rfl rfl (ay rfl rfl rfl (mj _ _ [_]) ?_)
      refine dx [(23, none), (24, none)] (fun i => [23, 24].contains i) 0 (rl [25]) (by kernel_rfl) ?_
      refine af rfl rfl rfl rfl (dp rfl rfl) ?_
      refine af rfl rfl rfl rfl (cg rfl rfl (by constructor)) ?_
      refine bz ?_
      dsimp only [St.put]
      refine gz (by kernel_rfl) ?_
      refine ⟨_, ?_, ⟨⟨rfl, rfl⟩, zF, zB, zN, zX⟩⟩
      rw [t8]
      (simp [h8, hnl, fq]; done)
     exact dg
    exact dg
   exact dg
  exact dg
 rintro b hst
 dsimp only at hst ⊢
 refine ar rfl (fun hc => ?_) (fun hc => ?_)
 ·have hw : ge t (q.ch, q.ln) = none := by rw [hc] at hst; simpa using hst.symm
  refine yS fun _ K4 => ?_
  refine yR ?_
  refine yA rfl rfl ?_
  refine yN ?_
  dsimp only [St.put]
  refine K4 _ ?_
  refine aq ?_
  refine ba rfl (by constructor) zN zS ?_
  exact vb (by unfold eu; rw [hw])
 have hw0 : (ge t (q.ch, q.ln)).isSome = true := by rw [hc] at hst; simpa using hst.symm
 obtain ⟨l, hw⟩ := Option.isSome_iff_exists.1 hw0
 obtain ⟨k, n, c, hkn, hk, hn⟩ := rj hw
 have hch : q.ch = ((k : Nat) : Int) := congrArg Prod.fst hkn
 have hln : q.ln = ((n : Nat) : Int) := congrArg Prod.snd hkn
 have hwl := t7 ht hw
 refine ax ?_
 refine K2 _ ?_
 refine yS fun _ K5 => ?_
 refine gn [(0, none), (1, none), (2, none), (3, none), (4, none), (5, none), (6, none), (7, none), (8, none), (9, none), (10, none), (11, none), (12, none), (13, none), (14, none), (15, none), (16, none), (17, none)] (fun i => [16].contains i) (fun i => [15, 16].contains i) (fun i => [0, 2, 4, 5, 7, 9, 11, 12, 13, 17].contains i) [] (by kernel_rfl) (by kernel_rfl) ?_
 refine af rfl rfl rfl rfl (bx rfl rfl rfl) ?_
 try dsimp only [St.put]
 refine aw rfl rfl rfl rfl (bn rfl rfl) ?_
 refine af rfl rfl rfl rfl (bx rfl rfl rfl) ?_
 try dsimp only [St.put]
 refine aw rfl rfl rfl rfl (bn rfl rfl) ?_
 try dsimp only [St.put]
 refine af rfl rfl rfl rfl (bu rfl rfl rfl (by omega) (bp (by assumption)) (Enc.len _)) ?_
 refine af rfl rfl rfl rfl (bx rfl rfl rfl) ?_
 try dsimp only [St.put]
 refine aw rfl rfl rfl rfl (bn rfl rfl) ?_
 refine af rfl rfl rfl rfl (bx rfl rfl rfl) ?_
 try dsimp only [St.put]
 refine aw rfl rfl rfl rfl (bn rfl rfl) ?_
 try dsimp only [St.put]
 refine af rfl rfl rfl rfl (bu rfl rfl rfl (by omega) (bp (by assumption)) (Enc.len _)) ?_
 try dsimp only [St.put]
 refine aw rfl rfl rfl rfl (bn rfl rfl) ?_
 refine af rfl rfl rfl rfl (bf rfl rfl (List.length_map _)) ?_
 refine af rfl rfl rfl rfl (gq rfl rfl rfl (by omega)) ?_
 refine af rfl rfl rfl rfl (bx rfl rfl rfl) ?_
 try dsimp only [St.put]
 refine aw rfl rfl rfl rfl (bn rfl rfl) ?_
 refine ji ?_
 try dsimp only [St.put]
 refine j7 rfl rfl rfl (dl rfl rfl rfl (by decide) (by decide) zR (by decide) ⟨zD, ?_⟩)
 try dsimp only [St.put]
 refine ij rfl rfl rfl rfl (ay rfl rfl rfl (mj _ _ [_]) ?_)
 refine d7 rfl rfl rfl rfl (fe rfl (by constructor)) ?_
 refine jh ?_
 dsimp only [St.put]
 refine K5 _ ?_
 refine aq ?_
 refine ba rfl (by constructor) zN zS ?_
 exact vb (by unfold eu; rw [hw, fq])
theorem uik (t : aj) (ht : c6 t = true) : Pure Tryd.prog 73 [ir t] (.tup [lst (lk t t.length), .v (.int .i64 (lv t : Int))]) := by
 refine co Tryd.func73 rfl (fun m => .tup (bv (bj _ _) (bv .v cv))) fun G nx => ?_
 simp only [Tryd.ntmps73, List.length_cons, List.length_nil, Nat.reduceAdd, Nat.reduceSub]
 refine bl fun hlt => ?_
 dsimp only at hlt
 obtain ⟨hl1, hl2, hl3⟩ := kz ht
 refine yS fun _ K1 => ?_
 refine yR ?_
 try dsimp only [St.put]
 refine yB rfl rfl rfl ?_
 refine yA rfl rfl ?_
 refine yA rfl rfl ?_
 refine yN ?_
 dsimp only [St.put]
 refine K1 _ ?_
 refine yS fun _ K2 => ?_
 refine yR ?_
 refine yA rfl rfl ?_
 refine yN ?_
 dsimp only [St.put]
 refine K2 _ ?_
 refine pr 4 3 1 rfl (by decide) ?_
 dsimp only [List.set_cons_zero, List.set_cons_succ]
 refine yS fun _ K3 => ?_
 refine yR ?_
 refine yA rfl rfl ?_
 refine yN ?_
 dsimp only [St.put]
 refine K3 _ ?_
 refine yS fun _ K4 => ?_
 refine yS fun _ K5 => ?_
 refine yR ?_
 refine yF rfl rfl rfl rfl ?_
 refine yL rfl rfl rfl ?_
 refine aa rfl (bf rfl rfl (List.length_map _)) ?_
 refine yM rfl rfl ?_
 refine yN ?_
 dsimp only [St.put]
 refine K5 _ ?_
 refine bh ?_
 refine ck 12 ?_
 refine zQ ?_
 refine dd (ak G nx (.tip 0 3 1)) zX ?_
 dsimp only
 refine dc (X := Nat) (fun k => k ≤ t.length) (fun k => t.length - k) (fun k => [(4, .list ((lk t k).map cells) (.tip nx)), (5, .v (.int .i64 (fa t k : Int))), (7, .any), (11, .v (.int .i64 (k : Int)))]) (fun k G' => ak G nx (.tip (lk t k).length 3 1)) 0 rfl ?_ ?_ ?_ ?_ ?_ ?_
 ·exact Nat.zero_le _
 ·exact zF
 ·exact zX
 ·rintro k hI
  exact zL
 ·rintro k hI
  exact zH
 rintro k hI
 dsimp only at hI ⊢
 refine yS fun _ K6 => ?_
 refine yR ?_
 refine aa rfl (ci rfl rfl rfl) ?_
 refine yN ?_
 dsimp only [St.put]
 refine K6 _ ?_
 refine yS fun _ K7 => ?_
 refine ar rfl (fun hc => ?_) (fun hc => ?_)
 ·replace hc := of_decide_eq_true hc
  obtain ⟨c, hcx⟩ : ∃ c, t[k]? = some c := dj (by omega)
  have hll := (hl3 c (ga hcx)).2.1
  have hsl := uc ht k (by omega)
  have hst : ((fa t (k + 1) : Nat) : Int) = (fa t k : Int) + (c.lines.length : Int) := by rw [ro hcx]; omega
  have hln := zx t k
  refine ax ?_
  refine K7 _ ?_
  refine yS fun _ K8 => ?_
  refine bh ?_
  refine yS fun _ K9 => ?_
  refine yR ?_
  refine aa rfl (bu rfl rfl rfl rfl (bp (by assumption)) (Enc.len _)) ?_
  refine yE rfl rfl rfl ?_
  try dsimp only [St.put]
  refine ae rfl (dm rfl ?_)
  try dsimp only [St.put]
  refine ae rfl (cp rfl rfl rfl zG rfl rfl (by rfl) ?_)
  refine yN ?_
  dsimp only [St.put]
  refine K9 _ ?_
  refine fw (i := 7) rfl zG zC ?_
  dsimp only
  refine yS fun _ K10 => ?_
  refine yR ?_
  refine yM rfl rfl ?_
  refine yM rfl rfl ?_
  try dsimp only [St.put]
  refine ae rfl (dl rfl rfl rfl (by decide) (by decide) zR (by decide) ?_)
  try dsimp only [St.put]
  refine ae rfl (kp ([(fa t k : Int)]) rfl rfl zG zE rfl rfl zA ?_ zA)
  refine yA rfl rfl ?_
  refine yN ?_
  dsimp only [St.put]
  refine K10 _ ?_
  refine yR ?_
  refine yM rfl rfl ?_
  refine yF rfl rfl rfl rfl ?_
  refine yL rfl rfl rfl ?_
  refine aa rfl (bf rfl rfl (List.length_map _)) ?_
  refine aa rfl (ca rfl rfl rfl (by omega)) ?_
  refine yA rfl rfl ?_
  refine yN ?_
  dsimp only [St.put]
  refine K8 _ ?_
  refine yR ?_
  refine aa rfl (ca rfl rfl rfl (by omega)) ?_
  refine yM rfl rfl ?_
  refine yN ?_
  dsimp only [St.put]
  rw [← hst]
  simp only [← ugj]
  exact ⟨k + 1, by omega, by omega, ⟨⟨rfl, rfl⟩, zF, zB, zN, zX⟩⟩
 replace hc := of_decide_eq_false hc
 obtain rfl : k = t.length := by omega
 refine c5 ?_
 refine K4 _ ?_
 refine yS fun _ K11 => ?_
 refine yR ?_
 refine yM rfl rfl ?_
 refine yM rfl rfl ?_
 refine yA rfl rfl ?_
 refine yA rfl rfl ?_
 refine yN ?_
 dsimp only [St.put]
 refine K11 _ ?_
 refine aq ?_
 refine gl rfl (dq (by constructor)) (dq (by constructor)) zN zS ?_ ?_
 ·exact zW
 exact Wk.of_eq (vi rfl)
end Go.Proofs.YtbbdginipiljdaaDoor
namespace Go.AB
open Go Go.RowKit Go.ChangeShapes Go.WideShapes
open Go.AB.Enc (cells)
open Go.PB (av aj PlaceD az bd bc)
/-- What is read along a type is a datum. -/
class OpensE (P : Program) (t : TypeId) (α : Type) [Enc α] : Prop where
 n : P.cellsOf t = Enc.n α
 op : ∀ {H : Type} {enc : TypeId × Value → H} {w : World} {base : Nat} {spare : Nat → Bool} {held : Bool} {fuel : Nat} {cs : List Value} {x : DataW H × List MemPlace}, DataW.trod enc P w base spare held fuel t cs = some x → ∃ a : α, Rs (jg w) w (cells a) cs
def s7 (P : Program) (t : TypeId) (k : IntKind) : Bool := match P.underlying t with | some (.int k') => k' == k && P.cellsOf t == 1 | _ => false
def wz (P : Program) (t : TypeId) : Bool := match P.underlying t with | some .string => P.cellsOf t == 1 | _ => false
def w6 (P : Program) (t e : TypeId) : Bool := match P.underlying t with | some (.slice e') => e' == e && P.cellsOf t == 1 | _ => false
def jb (P : Program) (t : TypeId) (l : List (Nat × TypeId × Nat)) (n : Nat) : Bool := match P.underlying t with
 | some (.struct fs) => (fs.toList.map fun f => (f.offset, f.type, P.cellsOf f.type)) == l && P.cellsOf t == n
 | _ => false
theorem wfI64 {n : Int} (h : (Lit.int .i64 n).wf = true) : okV (.int .i64 n) = true := by
 simp [Lit.wf, IntKind.min, IntKind.max, IntKind.signed, IntKind.bits] at h
 exact jk ⟨by omega, by omega⟩
theorem wfU8 {n : Int} (h : (Lit.int .u8 n).wf = true) : okV (.int .u8 n) = true := by
 simp [Lit.wf, IntKind.min, IntKind.max, IntKind.signed, IntKind.bits] at h
 exact xn ⟨by omega, by omega⟩
section
variable {P : Program} {t e : TypeId}
theorem ya {k : IntKind} (h : s7 P t k = true) : P.underlying t = some (.int k) ∧ P.cellsOf t = 1 := by
 unfold s7 at h
 split at h
 ·rename_i k' he
  simp only [Bool.and_eq_true, beq_iff_eq] at h
  rw [he, h.1]; exact ⟨rfl, h.2⟩
 ·cases h
theorem zv (h : wz P t = true) : P.underlying t = some .string ∧ P.cellsOf t = 1 := by
 unfold wz at h
 split at h
 ·rename_i he; exact ⟨he, by simpa using h⟩
 ·cases h
theorem z8 (h : w6 P t e = true) : P.underlying t = some (.slice e) ∧ P.cellsOf t = 1 := by
 unfold w6 at h
 split at h
 ·rename_i k' he
  simp only [Bool.and_eq_true, beq_iff_eq] at h
  rw [he, h.1]; exact ⟨rfl, h.2⟩
 ·cases h
theorem Rs.single {E : Env} {w : World} {c : C} {v : Value} (h : R E w c v) : Rs E w [c] [v] := Rs.cons h Rs.nil
theorem Rs.single_inv {E : Env} {w : World} {c : C} {v : Value} (h : Rs E w [c] [v]) : R E w c v := h.2 0 c v rfl rfl
theorem OpensE.int (h : s7 P t .i64 = true) : OpensE P t Int where
 n := (ya h).2
 op hx := by
  obtain ⟨n, rfl, _, h2⟩ := DataW.trod_int (ya h).1 hx
  exact ⟨n, Rs.single (.v (wfI64 h2))⟩
theorem OpensE.str (h : wz P t = true) : OpensE P t ByteArray where
 n := (zv h).2
 op hx := by
  obtain ⟨s, rfl, _, h2⟩ := DataW.trod_string (zv h).1 hx
  exact ⟨s, Rs.single (.v (okV_str.2 (by simpa [maxLen] using h2)))⟩
theorem ugk {w : World} {a : Addr} {v : Value} (h : w.cell? a = some v) : a.spot = none := by
 unfold World.cell? at h
 split at h
 ·split at h
  ·cases h
  ·rename_i hs
   cases hsp : a.spot with
   | none => rfl
   | some s => simp [hsp] at hs
 ·cases h
theorem uce {α : Type} {p : Nat → α → Prop} : ∀ (n : Nat), (∀ i, i < n → ∃ x, p i x) → ∃ xs : List α, xs.length = n ∧ ∀ i x, xs[i]? = some x → p i x
 | 0, _ => ⟨[], rfl, fun i x h => by simp at h⟩
 | n + 1, h => by
  obtain ⟨xs, h1, h2⟩ := uce n fun i hi => h i (by omega)
  obtain ⟨y, hy⟩ := h n (by omega)
  refine ⟨xs ++ [y], by simp [h1], fun i x hx => ?_⟩
  by_cases hi : i < xs.length
  ·rw [List.getElem?_append_left hi] at hx; exact h2 i x hx
  ·rw [List.getElem?_append_right (by omega)] at hx
   have hz : i - xs.length = 0 := by
    have := (List.getElem?_eq_some_iff.1 hx).1
    simp at this; omega
   rw [hz] at hx
   simp at hx
   subst hx
   rw [show i = n by omega]; exact hy
theorem uan {α : Type} [Enc α] {E : Env} {w : World} {b : Nat} : ∀ (xs : List α) (off : Nat), (∀ i x, xs[i]? = some x → ∃ es, Rs E w (cells x) es ∧ ∀ j e, es[j]? = some e → w.cell? ⟨b, off + i * Enc.n α + j, none⟩ = some e) →
  ∃ us, Rs E w (xs.map cells).flatten us ∧ ∀ j u, us[j]? = some u → w.cell? ⟨b, off + j, none⟩ = some u
 | [], off, _ => ⟨[], Rs.nil, by simp⟩
 | x :: xs, off, h => by
  obtain ⟨es, h1, h2⟩ := h 0 x rfl
  obtain ⟨us, h3, h4⟩ := uan xs (off + Enc.n α) fun i y hy => by
   obtain ⟨fs, k1, k2⟩ := h (i + 1) y (by simpa using hy)
   exact ⟨fs, k1, fun j e he => by rw [← k2 j e he]; congr 2; rw [Nat.add_mul]; omega⟩
  have hl : es.length = Enc.n α := by rw [h1.1]; exact Enc.len x
  refine ⟨es ++ us, by rw [List.map_cons, List.flatten_cons]; exact h1.append h3, fun j u hu => ?_⟩
  by_cases hj : j < es.length
  ·rw [List.getElem?_append_left hj] at hu
   rw [← h2 j u hu]; congr 2; omega
  ·rw [List.getElem?_append_right (by omega)] at hu
   rw [← h4 _ u hu]; congr 2; omega
theorem OpensE.slice {α : Type} [Enc α] [o : OpensE P e α] (h : w6 P t e = true) (hpos : 1 ≤ Enc.n α) : OpensE P t (List α) where
 n := (z8 h).2
 op {H enc w base spare held fuel cs x} hx := by
  rcases Deep.open_slice (z8 h).1 hx with ⟨rfl, _⟩ | ⟨a, len, cap, m, n, D, Pl, rfl, hb, hl, hm, hmm, _, hel⟩
  ·refine ⟨[], Rs.single ?_⟩
   exact R.mk_list (rows := []) (sz := 1) (us := []) (Nat.le_refl _) (Nat.zero_le _) (Nat.le_refl _) (by simp) (by simp) Rs.nil (.inl rfl) (by simp) (by simp) (by simp)
  ·have hlm : len ≤ m := by rw [hmm]; split <;> omega
   have hs : 0 < len → a.spot = none := fun h0 => by
    obtain ⟨cs', hc, ht⟩ := hel 0 (by omega)
    obtain ⟨_, hlen, hcell⟩ := World.cells?_some hc
    rw [o.n] at hlen hcell
    have := hcell 0 (by omega)
    rw [List.getElem?_eq_getElem (by omega)] at this
    have := ugk this
    simpa [Addr.add] using this
   obtain ⟨xs, h1, h2⟩ := uce (p := fun i (y : α) => ∃ es, Rs (jg w) w (cells y) es ∧ ∀ j e, es[j]? = some e → w.cell? ⟨a.block, a.off + i * Enc.n α + j, none⟩ = some e) len fun i hi => by
    obtain ⟨cs', hc, ht⟩ := hel i (by omega)
    obtain ⟨y, hy⟩ := o.op ht
    obtain ⟨_, hlen, hcell⟩ := World.cells?_some hc
    rw [o.n] at hlen hcell hc
    have hs' := hs (by omega)
    refine ⟨y, cs', hy, fun j u hj => ?_⟩
    have hj' : j < Enc.n α := by rw [← hlen]; exact (List.getElem?_eq_some_iff.1 hj).1
    have := hcell j hj'
    rw [hj] at this
    rw [← this]
    obtain ⟨ab, ao, asp⟩ := a
    dsimp only at hs'
    subst hs'
    rw [pv, pv]
   subst h1
   refine ⟨xs, Rs.single ?_⟩
   obtain ⟨us, k1, k2⟩ := uan (E := jg w) (w := w) (b := a.block) xs a.off h2
   have := R.mk_list (E := jg w) (w := w) (rows := xs.map cells) (a := some a) (cap := cap) (sz := Enc.n α) (us := us) (tok := .none) (by simpa using hl) hm hpos (lu xs) (fun r hr c hc => by
    obtain ⟨x, _, rfl⟩ := List.mem_map.1 hr
    exact Enc.one x c hc) k1 (by
    by_cases hxs : xs = []
    ·subst hxs; exact .inl rfl
    ·right
     have hs' := hs (List.length_pos_iff.2 hxs)
     obtain ⟨ab, ao, asp⟩ := a
     dsimp only at hs'
     subst hs'
     refine ⟨ab, ao, rfl, ?_, k2⟩
     have h0 : 0 < us.length := by
      rw [k1.1, mr (lu xs), List.length_map]
      exact Nat.mul_pos (List.length_pos_iff.2 hxs) hpos
     have := ud0 (k2 (us.length - 1) _ (List.getElem?_eq_getElem (by omega)))
     dsimp only at this
     show ao + us.length ≤ po w ab
     omega) (by simp) (by simp) (by simp)
   rw [List.length_map] at this
   exact this
theorem zw {l : List (Nat × TypeId × Nat)} {n : Nat} (h : jb P t l n = true) {H : Type} {enc : TypeId × Value → H} {w : World} {base : Nat} {spare : Nat → Bool} {held : Bool} {fuel : Nat} {cs : List Value} {x : DataW H × List MemPlace}
  (hx : DataW.trod enc P w base spare held fuel t cs = some x) : cs.length = n ∧ ∀ p ∈ l, ∃ m y, DataW.trod enc P w base spare held m p.2.1 ((cs.drop p.1).take p.2.2) = some y := by
 unfold jb at h
 split at h
 ·rename_i fs he
  simp only [Bool.and_eq_true, beq_iff_eq] at h
  obtain ⟨xs, m, _, _, hl, hlen, hf⟩ := DataW.trod_struct he hx
  refine ⟨by rw [hl, h.2], fun p hp => ?_⟩
  rw [← h.1] at hp
  obtain ⟨f, hfm, rfl⟩ := List.mem_map.1 hp
  obtain ⟨i, hi⟩ := List.getElem?_of_mem hfm
  have hi' : fs[i]? = some f := by simpa using hi
  have hlt : i < xs.length := by rw [hlen]; exact (Array.getElem?_eq_some_iff.1 hi').1
  exact ⟨m, xs[i], by rw [← List.getElem?_eq_getElem hlt]; exact hf i f hi'⟩
 ·cases h
theorem ub {l : List (Nat × TypeId × Nat)} {n : Nat} (h : jb P t l n = true) : P.cellsOf t = n ∧ ∃ fs, P.underlying t = some (.struct fs) := by
 unfold jb at h
 split at h
 ·rename_i fs he
  simp only [Bool.and_eq_true, beq_iff_eq] at h
  exact ⟨h.2, fs, he⟩
 ·cases h
/-- A struct of one field. -/
theorem OpensE.one {α : Type} [Enc α] [o : OpensE P e α] (h : jb P t [(0, e, Enc.n α)] (Enc.n α) = true) : OpensE P t α where
 n := (ub h).1
 op {H enc w base spare held fuel cs x} hx := by
  obtain ⟨hl, hp⟩ := zw h hx
  obtain ⟨m, y, hy⟩ := hp _ (List.mem_cons_self ..)
  obtain ⟨a, ha⟩ := o.op hy
  dsimp only at ha
  rw [List.drop_zero, List.take_of_length_le (by omega)] at ha
  exact ⟨a, ha⟩
/-- A struct, field by field. -/
theorem OpensE.struct {α : Type} [Enc α] {l : List (Nat × TypeId × Nat)} (h : jb P t l (Enc.n α) = true)
  (b : ∀ (w : World) (cs : List Value), cs.length = Enc.n α → (∀ p ∈ l, ∀ (β : Type) (_ : Enc β), OpensE P p.2.1 β → ∃ a : β, Rs (jg w) w (cells a) ((cs.drop p.1).take p.2.2)) → ∃ a : α, Rs (jg w) w (cells a) cs) : OpensE P t α where
 n := (ub h).1
 op {H enc w base spare held fuel cs x} hx := by
  obtain ⟨hl, hp⟩ := zw h hx
  exact b w cs hl fun p hpl β _ o => let ⟨_, _, hy⟩ := hp p hpl; o.op hy
theorem OpensE.chap {tI tL : TypeId} [oI : OpensE P tI Int] [oL : OpensE P tL (List (List ByteArray))] (h : jb P t [(0, tI, 1), (1, tL, 1)] 2 = true) : OpensE P t av :=
 .struct (α := av) h fun w cs hl hp => by
  obtain ⟨a, ha⟩ := hp (0, tI, 1) (by simp) Int inferInstance oI
  obtain ⟨b, hb⟩ := hp (1, tL, 1) (by simp) (List (List ByteArray)) inferInstance oL
  match cs, hl with
  | [u, v], _ => exact ⟨⟨a, b⟩, Rs.cons (Rs.single_inv ha) hb⟩
theorem OpensE.place {tI : TypeId} [oI : OpensE P tI Int] (h : jb P t [(0, tI, 1), (1, tI, 1), (2, tI, 1)] 3 = true) : OpensE P t PlaceD :=
 .struct (α := PlaceD) h fun w cs hl hp => by
  obtain ⟨a, ha⟩ := hp (0, tI, 1) (by simp) Int inferInstance oI
  obtain ⟨b, hb⟩ := hp (1, tI, 1) (by simp) Int inferInstance oI
  obtain ⟨c, hc⟩ := hp (2, tI, 1) (by simp) Int inferInstance oI
  match cs, hl with
  | [u, v, x], _ => exact ⟨⟨a, b, c⟩, Rs.cons (Rs.single_inv ha) (Rs.cons (Rs.single_inv hb) hc)⟩
/-- An argument that is a struct; a number. -/
theorem OpensE.arg {α : Type} [Enc α] [o : OpensE P t α] {l : List (Nat × TypeId × Nat)} {n : Nat} (h : jb P t l n = true) {H : Type} {enc : TypeId × Value → H} {w : World} {base : Nat} {spare : Nat → Bool} {held : Bool} {r : Reach} {b0 : Nat} {v : Value} {d : DataW H} {ps : List MemPlace}
  (hv : Value.okWide P w r b0 t v) (hd : DataW.Trod enc P w base spare held t v d ps) : ∃ a : α, R (jg w) w (.agg (cells a)) v := by
 obtain ⟨fs, hs⟩ := (ub h).2
 obtain ⟨cs, rfl, _⟩ := okWide_struct hs hv
 obtain ⟨fuel, hf⟩ := hd
 obtain ⟨a, ha⟩ := o.op hf
 exact ⟨a, by simpa [Value.cells] using Rs.agg ha (Enc.one a)⟩
end
theorem ukf {P : Program} {f : FuncId} {cs : List C} {v fv : Value} {fc : C} (hp : PureF (.fact fv fc) P f cs (.v v)) {w : World} {args : List Value} (hF : R (jg w) w fc fv) (hr : Rs (jg w) w cs args) :
  Calls P f args.toArray w fun e w' => e = .returned v ∧ Below w.heap.size w w' := by
 obtain ⟨E1, v1, g1⟩ := uc8 (um0 w) hF
 refine (hp _ _ (m5 _ _ _) E1 w args (hr.ev v1) g1).mono ?_
 rintro e w' ⟨r, x, E', G', nx', rfl, hev, hx, _, rfl, _⟩
 exact ⟨by rw [hx.v_inv], by have := hev.below; rw [v1.B] at this; exact this⟩
end Go.AB
namespace Go.AB
open Go Go.RowKit Go.ChangeShapes Go.WideShapes
open Go.AB.Enc (cells)
variable {P : Program} {o : Oper} {st : St}
theorem ubv {xt yt : TypeId} {x y : Operand} {m n : Int} (ho : o.op = .binOp .rem xt x y yt) (hx : evC st x = .v (.int .i64 m)) (hy : evC st y = .v (.int .i64 n)) (hm : 0 ≤ m ∧ m ≤ 9223372036854775807) (hn : 0 < n) : NStep P o st (.v (.int .i64 (m % n))) :=
 jz ho hx hy (jk (by have h1 := Int.emod_nonneg m (b := n) (by omega); have h2 := Int.mul_ediv_add_emod m n; have h3 := Int.mul_nonneg (Int.le_of_lt hn) (Int.ediv_nonneg hm.1 (Int.le_of_lt hn)); omega)) fun w => by
  have h1 : ¬ n = 0 := by omega
  have h2 : m.tmod n = m % n := Int.tmod_eq_emod_of_nonneg hm.1
  simp [eqGuard, binOp, Op.intDiv, h1, h2]
theorem ujj {s d : TypeId} {x : Operand} {k : IntKind} {n : Int} (ho : o.op = .convert s d x) (hx : evC st x = .v (.int k n)) (hs : (P.underlying s).isSome = true) (hd : P.underlying d = some (.int .i64)) (hn : -9223372036854775808 ≤ n ∧ n ≤ 9223372036854775807) : NStep P o st (.v (.int .i64 n)) := fun E w a h => by
 have e1 := (hx ▸ h.ev x).v_inv
 refine ⟨_, .v (jk hn), fun w' => ?_⟩
 have hk : P.intKind d = .i64 := by simp [Program.intKind, hd]
 have hw : IntKind.i64.wrap n = n := by rw [IntKind.wrap_i64]; omega
 have := run_convert_int (P := P) w' s d k n hs (by rw [hk]; exact hd)
 rw [hk, hw] at this
 simp [execOp, ho, e1, this]
/-- two bools -/
theorem ujk {t t' : TypeId} {X Y : Operand} {a b : Bool} (ho : o.op = .binOp .eql t X Y t') (hx : evC st X = .v (.bool a)) (hy : evC st Y = .v (.bool b)) (ht : P.underlying t = some .bool) : NStep P o st (.v (.bool (a == b))) := fun E w ac h => by
 have e1 := (hx ▸ h.ev X).v_inv
 have e2 := (hy ▸ h.ev Y).v_inv
 refine ⟨_, .v rfl, fun w' => ?_⟩
 have hq := run_equal_bool (P := P) w' t a b ht
 have hb : binOp .eql t (.bool a) (.bool b) = (do pure (.bool (← Op.equal t (.bool a) (.bool b))) : Sem Value) := rfl
 simp only [execOp, ho, e1, e2, Sem.run_bind, eqGuard, hb]
 simp [hq]
theorem umj {a : Bool} {q : Prop} [Decidable q] (h : a = true ↔ q) : (a == decide q) = true := by
 rw [beq_iff_eq, Bool.eq_iff_iff, decide_eq_true_eq]; exact h
theorem OpensE.argU8 {t : TypeId} (h : s7 P t .u8 = true) {H : Type} {enc : TypeId × Value → H} {w : World} {base : Nat} {spare : Nat → Bool} {held : Bool} {r : Reach} {b0 : Nat} {v : Value} {d : DataW H} {ps : List MemPlace}
  (hv : Value.okWide P w r b0 t v) (hd : DataW.Trod enc P w base spare held t v d ps) : ∃ a : Int, R (jg w) w (.v (.int .u8 a)) v := by
 obtain ⟨i, rfl, _, _, wi⟩ := open_int (ya h).1 hv hd
 exact ⟨i, .v (wfU8 wi)⟩
theorem ufx {n : Int} (h : (C.v (.int .u8 n)).fit) : 0 ≤ n ∧ n ≤ 255 := (okV_int.1 (fit_v.1 h) : _)
end Go.AB
namespace Go.AB
open Go Go.RowKit
open Go.AB.Enc (cells)
variable {P : Program} {o : Oper} {st : St}
theorem qi {xt yt : TypeId} {x y : Operand} {m n : Int} (ho : o.op = .binOp .mul xt x y yt) (hx : evC st x = .v (.int .i64 m)) (hy : evC st y = .v (.int .i64 n)) (hb : -9223372036854775808 ≤ m * n ∧ m * n ≤ 9223372036854775807) : NStep P o st (.v (.int .i64 (m * n))) :=
 jz ho hx hy (jk hb) fun w => by
  have : IntKind.i64.wrap (m * n) = m * n := by rw [IntKind.wrap_i64]; omega
  simp [eqGuard, binOp, Op.intArith, this]
theorem xw {xt yt : TypeId} {x y : Operand} {m n : Int} (ho : o.op = .binOp .quo xt x y yt) (hx : evC st x = .v (.int .i64 m)) (hy : evC st y = .v (.int .i64 n)) (hm : 0 ≤ m ∧ m ≤ 9223372036854775807) (hn : 0 < n) : NStep P o st (.v (.int .i64 (m / n))) := by
 have h3 : 0 ≤ m / n := Int.ediv_nonneg hm.1 (by omega)
 have h4 : m / n ≤ m := Int.ediv_le_self _ hm.1
 exact jz ho hx hy (jk (by omega)) fun w => by
  have h1 : ¬ n = 0 := by omega
  have h2 : m.tdiv n = m / n := Int.tdiv_eq_ediv_of_nonneg hm.1
  have h5 : IntKind.i64.wrap (m / n) = m / n := by rw [IntKind.wrap_i64]; omega
  simp [eqGuard, binOp, Op.intDiv, h1, h2, h5]
theorem ufy {n : Nat} (h : n ≤ 62) : (2 : Int) ^ n ≤ 4611686018427387904 := by
 have : 2 ^ n ≤ 2 ^ 62 := Nat.pow_le_pow_right (by omega) h
 have h2 : ((2 ^ n : Nat) : Int) = (2 : Int) ^ n := by norm_cast
 rw [← h2]
 have h3 : (2 : Nat) ^ 62 = 4611686018427387904 := by decide
 omega
/-- one, shifted -/
theorem ubu {xt yt : TypeId} {x y : Operand} {n : Nat} (ho : o.op = .binOp .shl xt x y yt) (hx : evC st x = .v (.int .i64 1)) (hy : evC st y = .v (.int .i64 (n : Int))) (hn : n ≤ 62) : NStep P o st (.v (.int .i64 ((2 ^ n : Nat) : Int))) := by
 have h0 := ufy hn
 have h2 : ((2 ^ n : Nat) : Int) = (2 : Int) ^ n := by norm_cast
 have h1 : 0 ≤ ((2 ^ n : Nat) : Int) := Int.natCast_nonneg _
 exact jz ho hx hy (jk (by omega)) fun w => by
  have e1 : ¬ ((n : Int) < 0) := by omega
  have e2 : min (n : Int).toNat IntKind.i64.bits = n := by rw [Int.toNat_natCast]; show min n 64 = n; omega
  have e3 : IntKind.i64.wrap (1 * 2 ^ n) = ((2 ^ n : Nat) : Int) := by rw [Int.one_mul, ← h2, IntKind.wrap_i64]; omega
  simp only [eqGuard, binOp, Op.shift, e1, if_false, e2, e3]
  rfl
/-- a number that is not below 0, shifted back -/
theorem xv {xt yt : TypeId} {x y : Operand} {k : IntKind} {m n : Nat} (ho : o.op = .binOp .shr xt x y yt) (hx : evC st x = .v (.int k (m : Int))) (hy : evC st y = .v (.int .i64 (n : Int))) (hn : n ≤ k.bits) (hm : (m : Int) ≤ hiK k) (hk : loK k ≤ 0) : NStep P o st (.v (.int k ((m / 2 ^ n : Nat) : Int))) := by
 have h4 : m / 2 ^ n ≤ m := Nat.div_le_self _ _
 exact n_int' ho hx hy (okV_int.2 (by obtain ⟨q, hq⟩ : ∃ q, m / 2 ^ n = q := ⟨_, rfl⟩; rw [hq] at h4 ⊢; omega)) fun w => by
  have e1 : ¬ ((n : Int) < 0) := by omega
  have e2 : min (n : Int).toNat k.bits = n := by rw [Int.toNat_natCast]; omega
  have e3 : (m : Int).fdiv (2 ^ n) = ((m / 2 ^ n : Nat) : Int) := by
   have h2 : ((2 ^ n : Nat) : Int) = (2 : Int) ^ n := by norm_cast
   rw [← h2, Int.fdiv_eq_ediv_of_nonneg _ (Int.natCast_nonneg _)]
   norm_cast
  simp only [eqGuard, binOp, Op.shift, e1, if_false, e2, e3]
  rfl
where
 n_int' {op : BinOp} {xt yt : TypeId} {x y : Operand} {k k' : IntKind} {m n : Int} {r : Value} (ho : o.op = .binOp op xt x y yt) (hx : evC st x = .v (.int k m)) (hy : evC st y = .v (.int k' n))
  (h1 : okV r = true) (h : ∀ w, (do eqGuard op xt x y (.int k m) (.int k' n); binOp op xt (.int k m) (.int k' n)).run P w = .ok r w) : NStep P o st (.v r) := fun E w a hs => by
  have e1 := (hx ▸ hs.ev x).v_inv
  have e2 := (hy ▸ hs.ev y).v_inv
  refine ⟨r, .v h1, fun w' => ?_⟩
  have := h w'
  simp only [execOp, ho, e1, e2, Sem.run_bind] at this ⊢
  rw [this]
  rfl
/-- the last bit -/
theorem xy {xt yt : TypeId} {x y : Operand} {k : IntKind} {m : Nat} (ho : o.op = .binOp .and xt x y yt) (hx : evC st x = .v (.int k (m : Int))) (hy : evC st y = .v (.int k 1)) (hm : m < 2 ^ k.bits) (hb : 2 ≤ k.bits) : NStep P o st (.v (.int k ((m % 2 : Nat) : Int))) := by
 have h2 : m % 2 < 2 := Nat.mod_lt _ (by omega)
 exact jz ho hx hy (okV_int.2 (by cases k <;> simp only [loK, hiK] <;> omega)) fun w => by
  have e1 : (BitVec.ofInt k.bits (m : Int) &&& BitVec.ofInt k.bits 1).toNat = m % 2 := by
   have q1 : (BitVec.ofInt k.bits (m : Int)).toNat = m := by
    rw [show BitVec.ofInt k.bits (m : Int) = BitVec.ofNat k.bits m from BitVec.ofInt_natCast .., BitVec.toNat_ofNat, Nat.mod_eq_of_lt hm]
   have q2 : (BitVec.ofInt k.bits 1).toNat = 1 := by
    rw [show BitVec.ofInt k.bits 1 = BitVec.ofNat k.bits 1 from BitVec.ofInt_natCast k.bits 1, BitVec.toNat_ofNat, Nat.mod_eq_of_lt]
    exact Nat.one_lt_two_pow (by omega)
   rw [BitVec.toNat_and, q1, q2, Nat.and_one_is_mod]
  have e2 : k.wrap ((m % 2 : Nat) : Int) = ((m % 2 : Nat) : Int) := by
   have : m % 2 = 0 ∨ m % 2 = 1 := by omega
   rcases this with h | h <;> rw [h] <;> cases k <;> decide
  simp only [eqGuard, binOp, Op.intBits, e1, e2]
  simp
end Go.AB
namespace Go.AB
open Go Go.RowKit
open Go.AB.Enc (cells)
open Go.PB (av aj PlaceD az bd bc bi am ah cc bg ct cw)
theorem z6 {t : aj} (ht : c6 t = true) (k : Nat) : fa t k ≤ 60 := by
 obtain ⟨_, h2, h3⟩ := kz ht
 have key : ∀ j, j ≤ t.length → fa t j ≤ j * 10 := by
  intro j
  induction j with
  | zero => intro _; rw [zz]; exact Nat.zero_le _
  | succ j ih =>
   intro hj
   have hc : t[j]? = some t[j] := List.getElem?_eq_getElem (by omega)
   rw [ro hc]
   have := (h3 _ (List.mem_of_getElem? hc)).2.1
   have := ih (by omega)
   omega
 by_cases q : k ≤ t.length
 ·have := key k q; omega
 have h1 := key t.length (Nat.le_refl _)
 have e : fa t k = fa t t.length := by
  unfold fa
  rw [List.take_of_length_le (show t.length ≤ k by omega), List.take_of_length_le (Nat.le_refl _)]
 omega
instance decLtW : ∀ a b : List Int, Decidable (ltW a b)
 | [], _ => isFalse (by simp [ltW])
 | _ :: _, [] => isFalse (by simp [ltW])
 | x :: a, y :: b => by
  have := decLtW a b
  unfold ltW
  exact inferInstance
end Go.AB
namespace Go.Proofs.YtbbdginipiljdaaDoor
set_option maxRecDepth 10000
open Go.RowKit Go.AB
open Go.AB.Enc (cells)
open Go.PB (av aj PlaceD az bd bc bi am ah cc bg ct cw)
theorem qe (n lo hi : Int) : Pure Tryd.prog 50 [.v (.int .i64 n), .v (.int .i64 lo), .v (.int .i64 hi)] (.v (.bool (inB n lo hi))) := by
 refine co Tryd.func50 rfl (fun m => .v) fun G nx => ?_
 simp only [Tryd.ntmps50, List.length_cons, List.length_nil, Nat.reduceAdd, Nat.reduceSub]
 refine bl fun hlt => ?_
 dsimp only at hlt
 refine yS fun _ K1 => ?_
 refine yR ?_
 refine yA rfl rfl ?_
 refine yN ?_
 dsimp only [St.put]
 refine K1 _ ?_
 refine yS fun _ K2 => ?_
 refine yR ?_
 refine yM rfl rfl ?_
 refine yM rfl rfl ?_
 refine aa rfl (lp rfl rfl rfl) ?_
 refine ef (fun hs => ?_) (fun hs => ?_)
 ·try replace hs := of_decide_eq_true hs
  refine yM rfl rfl ?_
  refine yM rfl rfl ?_
  refine yM rfl rfl ?_
  refine aa rfl (pd rfl rfl rfl) ?_
  refine aa rfl (bk rfl rfl (by constructor)) ?_
  refine yA rfl rfl ?_
  refine yN ?_
  dsimp only [St.put]
  refine K2 _ ?_
  refine aq ?_
  refine ba rfl (by constructor) zN zS ?_
  exact vb (by simp [inB, hs]; try omega)
 try replace hs := of_decide_eq_false hs
 refine yM rfl rfl ?_
 refine yK rfl ?_
 refine yK rfl ?_
 refine yK rfl ?_
 refine aa rfl (cg rfl rfl (by constructor)) ?_
 refine yA rfl rfl ?_
 refine yN ?_
 dsimp only [St.put]
 refine K2 _ ?_
 refine aq ?_
 refine ba rfl (by constructor) zN zS ?_
 exact vb (by simp [inB, hs]; try omega)
theorem uhw (t : aj) (ht : c6 t = true) : Pure Tryd.prog 78 [ir t] (.v (.int .i64 (lv t : Int))) := by
 refine co Tryd.func78 rfl (fun m => .v) fun G nx => ?_
 simp only [Tryd.ntmps78, List.length_cons, List.length_nil, Nat.reduceAdd, Nat.reduceSub]
 refine bl fun hlt => ?_
 dsimp only at hlt
 obtain ⟨hl1, hl2, hl3⟩ := kz ht
 refine yS fun _ K1 => ?_
 refine yR ?_
 try dsimp only [St.put]
 refine yB rfl rfl rfl ?_
 refine yA rfl rfl ?_
 refine yN ?_
 dsimp only [St.put]
 refine K1 _ ?_
 refine yS fun _ K2 => ?_
 refine yR ?_
 refine yA rfl rfl ?_
 refine yN ?_
 dsimp only [St.put]
 refine K2 _ ?_
 refine yS fun _ K3 => ?_
 refine yS fun _ K4 => ?_
 refine yR ?_
 refine yA rfl rfl ?_
 refine yN ?_
 dsimp only [St.put]
 refine K4 _ ?_
 refine bh ?_
 refine ck 5 ?_
 refine zQ ?_
 refine dd (G) zX ?_
 dsimp only
 refine dc (X := Nat) (fun k => k ≤ t.length) (fun k => t.length - k) (fun k => [(3, .v (.int .i64 ((fa t k : Nat) : Int))), (4, .v (.int .i64 (k : Int)))]) (fun k G' => G') 0 rfl ?_ ?_ (fun _ _ h => h) ?_ ?_ ?_
 ·exact Nat.zero_le _
 ·exact zF
 ·rintro k hI
  exact zL
 ·exact fun _ _ _ _ h => .inl h
 rintro k hI
 dsimp only at hI ⊢
 refine yS fun _ K5 => ?_
 refine yS fun _ K6 => ?_
 refine yR ?_
 refine yM rfl rfl ?_
 refine yF rfl rfl rfl rfl ?_
 refine yL rfl rfl rfl ?_
 refine aa rfl (bf rfl rfl (List.length_map _)) ?_
 refine aa rfl (ci rfl rfl rfl) ?_
 refine yN ?_
 dsimp only [St.put]
 refine K6 _ ?_
 refine ar rfl (fun hc => ?_) (fun hc => ?_)
 ·replace hc := of_decide_eq_true hc
  obtain ⟨c, hk⟩ : ∃ x, t[k]? = some x := dj (by omega)
  have hcl := hl3 c (ga hk)
  have hst := z6 ht k
  refine ax ?_
  refine K5 _ ?_
  refine yS fun _ K7 => ?_
  refine bh ?_
  refine yR ?_
  refine yM rfl rfl ?_
  refine yF rfl rfl rfl rfl ?_
  refine yL rfl rfl rfl ?_
  refine yM rfl rfl ?_
  refine aa rfl (bu rfl rfl rfl rfl (bp (by assumption)) (Enc.len _)) ?_
  refine yF rfl rfl rfl rfl ?_
  refine yL rfl rfl rfl ?_
  refine aa rfl (bf rfl rfl (List.length_map _)) ?_
  refine aa rfl (ca rfl rfl rfl (by omega)) ?_
  refine yA rfl rfl ?_
  refine yN ?_
  dsimp only [St.put]
  refine K7 _ ?_
  refine yR ?_
  refine yM rfl rfl ?_
  refine aa rfl (ca rfl rfl rfl (by omega)) ?_
  refine yA rfl rfl ?_
  refine yN ?_
  dsimp only [St.put]
  have e := ro hk
  rw [show ((fa t k : Nat) : Int) + (c.lines.length : Int) = ((fa t (k + 1) : Nat) : Int) by rw [e]; rfl]
  exact ⟨k + 1, by omega, by omega, ⟨⟨rfl, rfl⟩, zF, zB, zN, zX⟩⟩
 replace hc := of_decide_eq_false hc
 obtain rfl : k = t.length := by omega
 refine c5 ?_
 refine K3 _ ?_
 refine yS fun _ K8 => ?_
 refine yR ?_
 refine yM rfl rfl ?_
 refine yA rfl rfl ?_
 refine yN ?_
 dsimp only [St.put]
 refine K8 _ ?_
 refine aq ?_
 refine ba rfl (by constructor) zN zS ?_
 rfl
theorem uaw (t : aj) (q : PlaceD) (ht : c6 t = true) (hq : eu t q = true) : Pure Tryd.prog 70 [ir t, val q] (.v (.int .i64 (ph t q))) := by
 refine co Tryd.func70 rfl (fun m => .v) fun G nx => ?_
 simp only [Tryd.ntmps70, List.length_cons, List.length_nil, Nat.reduceAdd, Nat.reduceSub]
 refine bl fun hlt => ?_
 dsimp only at hlt
 obtain ⟨hl1, hl2, hl3⟩ := kz ht
 obtain ⟨kc, kn, kw, c0, l0, hqe, hkc, hkn, _⟩ := ua1 hq
 have hkcl := (List.getElem?_eq_some_iff.1 hkc).1
 have hknl := (List.getElem?_eq_some_iff.1 hkn).1
 have hc0 := (hl3 c0 (ga hkc)).2.1
 subst hqe
 refine yS fun _ K1 => ?_
 refine yR ?_
 try dsimp only [St.put]
 refine yB rfl rfl rfl ?_
 try dsimp only [St.put]
 refine yB rfl rfl rfl ?_
 refine yA rfl rfl ?_
 refine yN ?_
 dsimp only [St.put]
 refine K1 _ ?_
 refine yS fun _ K2 => ?_
 refine yR ?_
 refine yF rfl rfl rfl rfl ?_
 refine yL rfl rfl rfl ?_
 refine yA rfl rfl ?_
 refine yN ?_
 dsimp only [St.put]
 refine K2 _ ?_
 refine yS fun _ K3 => ?_
 refine yS fun _ K4 => ?_
 refine yR ?_
 refine yA rfl rfl ?_
 refine yN ?_
 dsimp only [St.put]
 refine K4 _ ?_
 refine bh ?_
 refine ck 7 ?_
 refine zQ ?_
 refine dd (G) zX ?_
 dsimp only
 refine dc (X := Nat) (fun k => k ≤ kc) (fun k => kc - k) (fun k => [(5, .v (.int .i64 ((kn : Int) + ((fa t k : Nat) : Int)))), (6, .v (.int .i64 (k : Int)))]) (fun k G' => G') 0 rfl ?_ ?_ (fun _ _ h => h) ?_ ?_ ?_
 ·exact Nat.zero_le _
 ·exact zF
 ·rintro k hI
  exact zL
 ·exact fun _ _ _ _ h => .inl h
 rintro k hI
 dsimp only at hI ⊢
 refine yS fun _ K5 => ?_
 refine yS fun _ K6 => ?_
 refine yR ?_
 refine yM rfl rfl ?_
 refine yF rfl rfl rfl rfl ?_
 refine yL rfl rfl rfl ?_
 refine aa rfl (ci rfl rfl rfl) ?_
 refine yN ?_
 dsimp only [St.put]
 refine K6 _ ?_
 refine ar rfl (fun hc => ?_) (fun hc => ?_)
 ·replace hc := of_decide_eq_true hc
  obtain ⟨c, hk⟩ : ∃ x, t[k]? = some x := dj (by omega)
  have hcl := hl3 c (ga hk)
  have hst := z6 ht k
  refine ax ?_
  refine K5 _ ?_
  refine yS fun _ K7 => ?_
  refine bh ?_
  refine yR ?_
  refine yM rfl rfl ?_
  refine yF rfl rfl rfl rfl ?_
  refine yL rfl rfl rfl ?_
  refine yM rfl rfl ?_
  refine aa rfl (bu rfl rfl rfl rfl (bp (by assumption)) (Enc.len _)) ?_
  refine yF rfl rfl rfl rfl ?_
  refine yL rfl rfl rfl ?_
  refine aa rfl (bf rfl rfl (List.length_map _)) ?_
  refine aa rfl (ca rfl rfl rfl (by omega)) ?_
  refine yA rfl rfl ?_
  refine yN ?_
  dsimp only [St.put]
  refine K7 _ ?_
  refine yR ?_
  refine yM rfl rfl ?_
  refine aa rfl (ca rfl rfl rfl (by omega)) ?_
  refine yA rfl rfl ?_
  refine yN ?_
  dsimp only [St.put]
  have e := ro hk
  rw [show (kn : Int) + ((fa t k : Nat) : Int) + (c.lines.length : Int) = (kn : Int) + ((fa t (k + 1) : Nat) : Int) by rw [e, Int.natCast_add]; omega]
  exact ⟨k + 1, by omega, by omega, ⟨⟨rfl, rfl⟩, zF, zB, zN, zX⟩⟩
 replace hc := of_decide_eq_false hc
 obtain rfl : k = kc := by omega
 refine c5 ?_
 refine K3 _ ?_
 refine yS fun _ K8 => ?_
 refine yR ?_
 refine yM rfl rfl ?_
 refine yA rfl rfl ?_
 refine yN ?_
 dsimp only [St.put]
 refine K8 _ ?_
 refine aq ?_
 refine ba rfl (by constructor) zN zS ?_
 exact vi (by unfold ph; rw [Int.toNat_natCast])
theorem uav (a b : List Int) (ha : a.length ≤ 1000) : Pure Tryd.prog 28 [lst a, lst b] (.v (.bool (decide (a = b)))) := by
 refine co Tryd.func28 rfl (fun m => .v) fun G nx => ?_
 simp only [Tryd.ntmps28, List.length_cons, List.length_nil, Nat.reduceAdd, Nat.reduceSub]
 refine bl fun hlt => ?_
 dsimp only at hlt
 refine kr 1 (fun hfb => ?_)
 have hb := (fit_lst.1 hfb).1
 refine yS fun _ K1 => ?_
 refine yR ?_
 refine yA rfl rfl ?_
 refine yN ?_
 dsimp only [St.put]
 refine K1 _ ?_
 refine yS fun _ K2 => ?_
 refine yS fun _ K3 => ?_
 refine yR ?_
 refine yM rfl rfl ?_
 refine aa rfl (bf rfl rfl (List.length_map _)) ?_
 refine yM rfl rfl ?_
 refine aa rfl (bf rfl rfl (List.length_map _)) ?_
 refine aa rfl (fm rfl rfl rfl) ?_
 refine yN ?_
 dsimp only [St.put]
 refine K3 _ ?_
 refine ar rfl (fun hc => ?_) (fun hc => ?_)
 ·try replace hc := of_decide_eq_true hc
  refine yS fun _ K4 => ?_
  refine yR ?_
  refine yA rfl rfl ?_
  refine yN ?_
  dsimp only [St.put]
  refine K4 _ ?_
  refine aq ?_
  refine ba rfl (by constructor) zN zS ?_
  exact vb (by
   have : a ≠ b := fun e => by subst e; simp at hc
   simp [this])
 have hl : a.length = b.length := by
  have := gp hc
  omega
 refine ax ?_
 refine K2 _ ?_
 refine yS fun _ K5 => ?_
 refine yS fun _ K6 => ?_
 refine yR ?_
 refine yA rfl rfl ?_
 refine yN ?_
 dsimp only [St.put]
 refine K6 _ ?_
 refine bh ?_
 refine ck 6 ?_
 refine zQ ?_
 refine dd (G) zX ?_
 dsimp only
 refine dc (X := Nat) (fun k => k ≤ a.length ∧ a.take k = b.take k) (fun k => a.length - k) (fun k => [(5, .v (.int .i64 (k : Int)))]) (fun k G' => G') 0 rfl ?_ ?_ (fun _ _ h => h) ?_ ?_ ?_
 ·exact ⟨Nat.zero_le _, by simp⟩
 ·exact zF
 ·rintro k hI
  exact zL
 ·exact fun _ _ _ _ h => .inl h
 rintro k hI
 dsimp only at hI ⊢
 refine yS fun _ K7 => ?_
 refine yS fun _ K8 => ?_
 refine yR ?_
 refine yM rfl rfl ?_
 refine yM rfl rfl ?_
 refine aa rfl (bf rfl rfl (List.length_map _)) ?_
 refine aa rfl (ci rfl rfl rfl) ?_
 refine yN ?_
 dsimp only [St.put]
 refine K8 _ ?_
 refine ar rfl (fun hc => ?_) (fun hc => ?_)
 ·replace hc := of_decide_eq_true hc
  obtain ⟨x, hx⟩ : ∃ x, a[k]? = some x := dj (by omega)
  obtain ⟨y, hy⟩ : ∃ y, b[k]? = some y := dj (by omega)
  refine ax ?_
  refine K7 _ ?_
  refine yS fun _ K9 => ?_
  refine bh ?_
  refine yS fun _ K10 => ?_
  refine gn [(0, none), (1, none), (2, none), (3, none), (4, none), (5, none), (6, none), (7, none), (8, none)] (fun i => [].contains i) (fun i => [].contains i) (fun i => [0, 1, 2, 4, 5, 6, 8].contains i) [] (by kernel_rfl) (by kernel_rfl) ?_
  refine xM rfl rfl rfl rfl rfl ?_
  refine xM rfl rfl rfl rfl rfl ?_
  try dsimp only [St.put]
  refine af rfl rfl rfl rfl (bu rfl rfl rfl rfl (bp (by assumption)) (Enc.len _)) ?_
  try dsimp only [St.put]
  refine aw rfl rfl rfl rfl (bn rfl rfl) ?_
  refine xM rfl rfl rfl rfl rfl ?_
  refine xM rfl rfl rfl rfl rfl ?_
  try dsimp only [St.put]
  refine af rfl rfl rfl rfl (bu rfl rfl rfl rfl (bp (by assumption)) (Enc.len _)) ?_
  try dsimp only [St.put]
  refine aw rfl rfl rfl rfl (bn rfl rfl) ?_
  refine af rfl rfl rfl rfl (fm rfl rfl rfl) ?_
  refine bz ?_
  dsimp only [St.put]
  refine K10 _ ?_
  refine ar rfl (fun hc => ?_) (fun hc => ?_)
  ·have hxy := jm hc
   refine yS fun _ K11 => ?_
   refine yR ?_
   refine yA rfl rfl ?_
   refine yN ?_
   dsimp only [St.put]
   refine K11 _ ?_
   refine aq ?_
   refine ba rfl (by constructor) zN zS ?_
   exact vb (by simp [ubs hx hy hxy])
  have hxy := gp hc
  refine ax ?_
  refine K9 _ ?_
  refine yR ?_
  refine yM rfl rfl ?_
  refine aa rfl (ca rfl rfl rfl (by omega)) ?_
  refine yA rfl rfl ?_
  refine yN ?_
  dsimp only [St.put]
  exact ⟨k + 1, by omega, ⟨by omega, zp hI.2 hx (hxy ▸ hy)⟩, ⟨⟨rfl, rfl⟩, zF, zB, zN, zX⟩⟩
 replace hc := of_decide_eq_false hc
 refine c5 ?_
 refine K5 _ ?_
 refine yS fun _ K12 => ?_
 refine yR ?_
 refine yA rfl rfl ?_
 refine yN ?_
 dsimp only [St.put]
 refine K12 _ ?_
 refine aq ?_
 refine ba rfl (by constructor) zN zS ?_
 exact vb (by
  have h1 := hI.2
  rw [gg (by omega), gg (by omega)] at h1
  simp [h1])
end Go.Proofs.YtbbdginipiljdaaDoor
namespace Go.AB
open Go Go.RowKit
open Go.AB.Enc (cells)
open Go.PB (av aj PlaceD az bd bc bi am ah cc bg ct cw)
theorem bit_eq {s k : Nat} : (((s / 2 ^ k % 2 : Nat) : Int) = 1) ↔ s.testBit k = true := by
 rw [Nat.testBit_eq_decide_div_mod_eq, decide_eq_true_eq]
 omega
end Go.AB
namespace Go.Proofs.YtbbdginipiljdaaDoor
set_option maxRecDepth 10000
open Go.RowKit Go.AB
open Go.AB.Enc (cells)
open Go.PB (av aj PlaceD az bd bc bi am ah cc bg ct cw)
end Go.Proofs.YtbbdginipiljdaaDoor
namespace Go.AB
open Go Go.RowKit
open Go.AB.Enc (cells)
open Go.PB (av aj PlaceD az bd bc bi am ah cc bg ct cw)
theorem zt {l : List am} {g : am → Nat} (k : Nat) : dt (l.take k) g ≤ dt l g := by
 have h : dt l g = dt (l.take k) g + dt (l.drop k) g := by
  unfold dt
  rw [← List.sum_append, ← List.map_append, List.take_append_drop]
 omega
theorem ujo {p : ah} {b : Bool} {i : Nat} {r : bi} (h : (da p b)[i]? = some r) : kh p b i = r.miss := by unfold kh; rw [h]
theorem uk9 (R : Nat → Int) (S : Nat → Bool) (k : Nat) : fR R S (k + 1) = fR R S k + bif S k then R k else 0 := rfl
theorem udd (p : ah) (C : Nat → Int) (S : Nat → Bool) (k : Nat) : fC p C S (k + 1) = fC p C S k + bif (br p).hit S k then 0 else C k := rfl
end Go.AB
namespace Go.Proofs.YtbbdginipiljdaaDoor
set_option maxRecDepth 10000
open Go.RowKit Go.AB
open Go.AB.Enc (cells)
open Go.PB (av aj PlaceD az bd bc bi am ah cc bg ct cw)
end Go.Proofs.YtbbdginipiljdaaDoor
namespace Go.Proofs.YtbbdginipiljdaaDoor
set_option maxRecDepth 10000
open Go Go.RowKit Go.AB
open Go.AB.Enc (cells)
open Go.PB (av aj PlaceD az bd bc bi am ah cc bg ct cw)
theorem ugv (p : ah) : Pure Tryd.prog 151 [val p] (lst p.firsts) := by
 refine co Tryd.func151 rfl (fun m => (bj _ _)) fun G nx => ?_
 simp only [Tryd.ntmps151, List.length_cons, List.length_nil, Nat.reduceAdd, Nat.reduceSub]
 refine bl fun hlt => ?_
 dsimp only at hlt
 refine yS fun _ K1 => ?_
 refine yR ?_
 try dsimp only [St.put]
 refine yB rfl rfl rfl ?_
 refine yA rfl rfl ?_
 refine yN ?_
 dsimp only [St.put]
 refine K1 _ ?_
 refine yS fun _ K2 => ?_
 refine yR ?_
 refine yF rfl rfl rfl rfl ?_
 refine yL rfl rfl rfl ?_
 refine yA rfl rfl ?_
 refine yN ?_
 dsimp only [St.put]
 refine K2 _ ?_
 refine aq ?_
 refine ba rfl (by constructor) zN zS ?_
 rfl
theorem ugu (x : am) : Pure Tryd.prog 152 [val x] (.v (.int .i64 x.fst)) := by
 refine co Tryd.func152 rfl (fun m => .v) fun G nx => ?_
 simp only [Tryd.ntmps152, List.length_cons, List.length_nil, Nat.reduceAdd, Nat.reduceSub]
 refine bl fun hlt => ?_
 dsimp only at hlt
 refine yS fun _ K1 => ?_
 refine yR ?_
 try dsimp only [St.put]
 refine yB rfl rfl rfl ?_
 refine yA rfl rfl ?_
 refine yN ?_
 dsimp only [St.put]
 refine K1 _ ?_
 refine yS fun _ K2 => ?_
 refine yR ?_
 refine yF rfl rfl rfl rfl ?_
 refine yL rfl rfl rfl ?_
 refine yA rfl rfl ?_
 refine yN ?_
 dsimp only [St.put]
 refine K2 _ ?_
 refine aq ?_
 refine ba rfl (by constructor) zN zS ?_
 rfl
theorem ugt (x : am) : Pure Tryd.prog 153 [val x] (lst x.found) := by
 refine co Tryd.func153 rfl (fun m => (bj _ _)) fun G nx => ?_
 simp only [Tryd.ntmps153, List.length_cons, List.length_nil, Nat.reduceAdd, Nat.reduceSub]
 refine bl fun hlt => ?_
 dsimp only at hlt
 refine yS fun _ K1 => ?_
 refine yR ?_
 try dsimp only [St.put]
 refine yB rfl rfl rfl ?_
 refine yA rfl rfl ?_
 refine yN ?_
 dsimp only [St.put]
 refine K1 _ ?_
 refine yS fun _ K2 => ?_
 refine yR ?_
 refine yF rfl rfl rfl rfl ?_
 refine yL rfl rfl rfl ?_
 refine yA rfl rfl ?_
 refine yN ?_
 dsimp only [St.put]
 refine K2 _ ?_
 refine aq ?_
 refine ba rfl (by constructor) zN zS ?_
 rfl
theorem ugs (p : ah) : Pure Tryd.prog 154 [val p] (lst p.seconds) := by
 refine co Tryd.func154 rfl (fun m => (bj _ _)) fun G nx => ?_
 simp only [Tryd.ntmps154, List.length_cons, List.length_nil, Nat.reduceAdd, Nat.reduceSub]
 refine bl fun hlt => ?_
 dsimp only at hlt
 refine yS fun _ K1 => ?_
 refine yR ?_
 try dsimp only [St.put]
 refine yB rfl rfl rfl ?_
 refine yA rfl rfl ?_
 refine yN ?_
 dsimp only [St.put]
 refine K1 _ ?_
 refine yS fun _ K2 => ?_
 refine yR ?_
 refine yF rfl rfl rfl rfl ?_
 refine yL rfl rfl rfl ?_
 refine yA rfl rfl ?_
 refine yN ?_
 dsimp only [St.put]
 refine K2 _ ?_
 refine aq ?_
 refine ba rfl (by constructor) zN zS ?_
 rfl
theorem ugr (x : am) : Pure Tryd.prog 155 [val x] (.v (.int .i64 x.snd)) := by
 refine co Tryd.func155 rfl (fun m => .v) fun G nx => ?_
 simp only [Tryd.ntmps155, List.length_cons, List.length_nil, Nat.reduceAdd, Nat.reduceSub]
 refine bl fun hlt => ?_
 dsimp only at hlt
 refine yS fun _ K1 => ?_
 refine yR ?_
 try dsimp only [St.put]
 refine yB rfl rfl rfl ?_
 refine yA rfl rfl ?_
 refine yN ?_
 dsimp only [St.put]
 refine K1 _ ?_
 refine yS fun _ K2 => ?_
 refine yR ?_
 refine yF rfl rfl rfl rfl ?_
 refine yL rfl rfl rfl ?_
 refine yA rfl rfl ?_
 refine yN ?_
 dsimp only [St.put]
 refine K2 _ ?_
 refine aq ?_
 refine ba rfl (by constructor) zN zS ?_
 rfl
theorem ugq (x : am) : Pure Tryd.prog 156 [val x] (lst x.well) := by
 refine co Tryd.func156 rfl (fun m => (bj _ _)) fun G nx => ?_
 simp only [Tryd.ntmps156, List.length_cons, List.length_nil, Nat.reduceAdd, Nat.reduceSub]
 refine bl fun hlt => ?_
 dsimp only at hlt
 refine yS fun _ K1 => ?_
 refine yR ?_
 try dsimp only [St.put]
 refine yB rfl rfl rfl ?_
 refine yA rfl rfl ?_
 refine yN ?_
 dsimp only [St.put]
 refine K1 _ ?_
 refine yS fun _ K2 => ?_
 refine yR ?_
 refine yF rfl rfl rfl rfl ?_
 refine yL rfl rfl rfl ?_
 refine yA rfl rfl ?_
 refine yN ?_
 dsimp only [St.put]
 refine K2 _ ?_
 refine aq ?_
 refine ba rfl (by constructor) zN zS ?_
 rfl
def sRd (b : Bool) : FuncId := bif b then 154 else 151
def sFt (b : Bool) : FuncId := bif b then 155 else 152
def sFd (b : Bool) : FuncId := bif b then 156 else 153
instance (b : Bool) : Fun Tryd.prog (sRd b) := by
 cases b
 ·exact inferInstanceAs (Fun Tryd.prog 151)
 exact inferInstanceAs (Fun Tryd.prog 154)
instance (b : Bool) : Fun Tryd.prog (sFt b) := by
 cases b
 ·exact inferInstanceAs (Fun Tryd.prog 152)
 exact inferInstanceAs (Fun Tryd.prog 155)
instance (b : Bool) : Fun Tryd.prog (sFd b) := by
 cases b
 ·exact inferInstanceAs (Fun Tryd.prog 153)
 exact inferInstanceAs (Fun Tryd.prog 156)
theorem n2 (b : Bool) (p : ah) : Pure Tryd.prog (sRd b) [val p] (lst (da p b)) := by
 cases b
 ·exact ugv p
 exact ugs p
theorem w9 (b : Bool) (x : am) : Pure Tryd.prog (sFt b) [val x] (.v (.int .i64 (eo b x))) := by
 cases b
 ·exact ugu x
 exact ugr x
theorem uai (b : Bool) (x : am) : Pure Tryd.prog (sFd b) [val x] (lst (cr b x)) := by
 cases b
 ·exact ugt x
 exact ugq x
abbrev m4 (b : Bool) : List C := [.fn (.func (sRd b)) [], .fn (.func (sFt b)) [], .fn (.func (sFd b)) []]
abbrev sidL : List C := m4 false ++ m4 true
abbrev em : GObj := .fact (.pointer (some ⟨0, 0, none⟩)) (.elem sidL)
abbrev jx (p : ah) : List C := [lst p.text, lst p.firsts, lst p.seconds, lst p.pages, lst (p.pages.map fun x => (er p.text x : Int)), lst (p.pages.map (dn p.text)), lst (p.pages.map (cj p.text))]
theorem ug : ∀ {k : Nat}, k < 2 → (sidL.drop (k * 3)).take 3 = m4 (decide (k = 1))
 | 0, _ => rfl
 | 1, _ => rfl
 | k + 2, h => by omega
set_option maxHeartbeats 1000000 in
theorem ua4 (p : ah) (b : Bool) (i : Nat) (h : e8 p) (hi : i < (da p b).length) : Pure Tryd.prog 49 [.elem (jx p), .agg (m4 b), .v (.int .i64 (i : Int))] (.tup [.v (.int .i64 (nt p b i)), .v (.int .i64 (n9 p b i))]) := by
 refine co Tryd.func49 rfl (fun m => .tup (bv .v (bv .v cv))) fun G nx => ?_
 simp only [Tryd.ntmps49, List.length_cons, List.length_nil, Nat.reduceAdd, Nat.reduceSub]
 refine bl fun hlt => ?_
 dsimp only at hlt
 have hown := ube h b (i : Int)
 have hrd := uas h b (i : Int)
 have hal := ox h.text
 have hnp := h.np
 have hmb := ub2 h b i
 obtain ⟨r, hr⟩ : ∃ r, (da p b)[i]? = some r := dj hi
 have hmr := ujo hr
 refine yS fun _ K1 => ?_
 refine yR ?_
 try dsimp only [St.put]
 refine yB rfl rfl rfl ?_
 refine yA rfl rfl ?_
 refine yA rfl rfl ?_
 refine yN ?_
 dsimp only [St.put]
 refine K1 _ ?_
 refine yS fun _ K2 => ?_
 refine yR ?_
 refine yA rfl rfl ?_
 refine yA rfl rfl ?_
 refine yN ?_
 dsimp only [St.put]
 refine K2 _ ?_
 refine yS fun _ K3 => ?_
 refine yS fun _ K4 => ?_
 refine yR ?_
 refine yM rfl rfl ?_
 refine aa rfl (kg rfl rfl) ?_
 refine yF rfl rfl rfl rfl ?_
 refine yF rfl rfl rfl rfl ?_
 refine yL rfl rfl rfl ?_
 refine aa rfl (bf rfl rfl (List.length_map _)) ?_
 refine yM rfl rfl ?_
 refine yN ?_
 dsimp only [St.put]
 refine K4 _ ?_
 refine bh ?_
 refine ck 20 ?_
 refine zQ ?_
 refine dd (G) zX ?_
 dsimp only
 refine dc (X := Nat) (fun k => k ≤ p.pages.length) (fun k => p.pages.length - k) (fun k => [(8, .v (.int .i64 ((dt (p.pages.take k) (f7 b (i : Int)) : Nat) : Int))), (9, .v (.int .i64 ((dt (p.pages.take k) (iv p.text b (i : Int)) : Nat) : Int))), (10, .any), (11, .any), (19, .v (.int .i64 (k : Int)))]) (fun k G' => G') 0 rfl ?_ ?_ (fun _ _ h => h) ?_ ?_ ?_
 ·exact Nat.zero_le _
 ·exact zF
 ·rintro k hI
  exact zL
 ·exact fun _ _ _ _ h => .inl h
 rintro k hI
 dsimp only at hI ⊢
 refine yS fun _ K5 => ?_
 refine yR ?_
 refine aa rfl (ci rfl rfl rfl) ?_
 refine yN ?_
 dsimp only [St.put]
 refine K5 _ ?_
 refine yS fun _ K6 => ?_
 refine ar rfl (fun hc => ?_) (fun hc => ?_)
 ·replace hc := of_decide_eq_true hc
  obtain ⟨x, hx⟩ : ∃ x, p.pages[k]? = some x := dj (by omega)
  have hax : (p.pages.map (dn p.text))[k]? = some (dn p.text x) := by rw [List.getElem?_map, hx]; rfl
  have hp := pageB_true.1 (h.page k x hx)
  have hfd : (cr b x).length ≤ 600 := by
   have hfl := ms hp.found
   have hwl := ms hp.well
   cases b
   ·show x.found.length ≤ 600
    omega
   show x.well.length ≤ 600
   omega
  have hgl := te p.text x
  have ht1 := zt (l := p.pages) (g := f7 b (i : Int)) k
  have ht2 := zt (l := p.pages) (g := iv p.text b (i : Int)) k
  refine ax ?_
  refine K6 _ ?_
  refine yS fun _ K7 => ?_
  refine bh ?_
  refine yS fun _ K8 => ?_
  refine yR ?_
  refine yM rfl rfl ?_
  refine aa rfl (bu rfl rfl rfl rfl (bp (by assumption)) (Enc.len _)) ?_
  refine yE rfl rfl rfl ?_
  try dsimp only [St.put]
  refine ae rfl (dm rfl ?_)
  refine yA rfl rfl ?_
  try dsimp only [St.put]
  refine ae rfl (cp rfl rfl rfl zG rfl rfl (by rfl) ?_)
  refine yN ?_
  dsimp only [St.put]
  refine K8 _ ?_
  refine fw (i := 11) rfl zG zC ?_
  dsimp only
  refine yS fun _ K9 => ?_
  refine yR ?_
  refine yF rfl rfl rfl rfl ?_
  refine yL rfl rfl rfl ?_
  refine yE rfl rfl rfl ?_
  try dsimp only [St.put]
  refine ae rfl (ay rfl rfl rfl (w9 b x) ?_)
  refine yM rfl rfl ?_
  refine aa rfl (ec rfl rfl rfl) ?_
  refine yN ?_
  dsimp only [St.put]
  refine K9 _ ?_
  refine ar rfl (fun hc => ?_) (fun hc => ?_)
  ·have hyes : eo b x = (i : Int) := of_decide_eq_true hc
   refine yS fun _ K10 => ?_
   refine yR ?_
   refine yM rfl rfl ?_
   refine yF rfl rfl rfl rfl ?_
   refine yL rfl rfl rfl ?_
   refine yE rfl rfl rfl ?_
   try dsimp only [St.put]
   refine ae rfl (ay rfl rfl rfl (uai b x) ?_)
   refine aa rfl (bf rfl rfl (List.length_map _)) ?_
   refine aa rfl (ca rfl rfl rfl (by omega)) ?_
   refine yA rfl rfl ?_
   refine yN ?_
   dsimp only [St.put]
   refine K10 _ ?_
   refine yR ?_
   refine yM rfl rfl ?_
   refine yM rfl rfl ?_
   refine aa rfl (kg rfl rfl) ?_
   refine yF rfl rfl rfl rfl ?_
   refine yL rfl rfl rfl ?_
   refine yM rfl rfl ?_
   refine aa rfl (bu rfl rfl rfl rfl (bp (by assumption)) (Enc.len _)) ?_
   refine yL rfl rfl rfl ?_
   refine aa rfl (bf rfl rfl (List.length_map _)) ?_
   refine aa rfl (ca rfl rfl rfl (by omega)) ?_
   refine yA rfl rfl ?_
   refine yN ?_
   dsimp only [St.put]
   refine K7 _ ?_
   refine yR ?_
   refine aa rfl (ca rfl rfl rfl (by omega)) ?_
   refine yM rfl rfl ?_
   refine yN ?_
   dsimp only [St.put]
   have e1 := rn (g := f7 b (i : Int)) hx
   have e2 := rn (g := iv p.text b (i : Int)) hx
   first
   | (have z : eo b x = (i : Int) := hyes
      rw [show ((dt (p.pages.take k) (f7 b (i : Int)) : Nat) : Int) + ((cr b x).length : Int) = ((dt (p.pages.take (k + 1)) (f7 b (i : Int)) : Nat) : Int) by rw [e1]; unfold f7; rw [decide_eq_true z, cond_true]; rfl, show ((dt (p.pages.take k) (iv p.text b (i : Int)) : Nat) : Int) + ((dn p.text x).length : Int) = ((dt (p.pages.take (k + 1)) (iv p.text b (i : Int)) : Nat) : Int) by rw [e2]; unfold iv; rw [decide_eq_true z, cond_true]; rfl]
      exact ⟨k + 1, by omega, by omega, ⟨⟨rfl, rfl⟩, zF, zB, zN, zX⟩⟩)
   | (have z : ¬ eo b x = (i : Int) := hno
      rw [show dt (p.pages.take k) (f7 b (i : Int)) = dt (p.pages.take (k + 1)) (f7 b (i : Int)) by rw [e1]; unfold f7; rw [decide_eq_false z]; rfl, show dt (p.pages.take k) (iv p.text b (i : Int)) = dt (p.pages.take (k + 1)) (iv p.text b (i : Int)) by rw [e2]; unfold iv; rw [decide_eq_false z]; rfl]
      exact ⟨k + 1, by omega, by omega, ⟨⟨rfl, rfl⟩, zF, zB, zN, zX⟩⟩)
  have hno : ¬ eo b x = (i : Int) := of_decide_eq_false hc
  refine ax ?_
  refine K7 _ ?_
  refine yR ?_
  refine aa rfl (ca rfl rfl rfl (by omega)) ?_
  refine yM rfl rfl ?_
  refine yN ?_
  dsimp only [St.put]
  have e1 := rn (g := f7 b (i : Int)) hx
  have e2 := rn (g := iv p.text b (i : Int)) hx
  first
  | (have z : eo b x = (i : Int) := hyes
     rw [show ((dt (p.pages.take k) (f7 b (i : Int)) : Nat) : Int) + ((cr b x).length : Int) = ((dt (p.pages.take (k + 1)) (f7 b (i : Int)) : Nat) : Int) by rw [e1]; unfold f7; rw [decide_eq_true z, cond_true]; rfl, show ((dt (p.pages.take k) (iv p.text b (i : Int)) : Nat) : Int) + ((dn p.text x).length : Int) = ((dt (p.pages.take (k + 1)) (iv p.text b (i : Int)) : Nat) : Int) by rw [e2]; unfold iv; rw [decide_eq_true z, cond_true]; rfl]
     exact ⟨k + 1, by omega, by omega, ⟨⟨rfl, rfl⟩, zF, zB, zN, zX⟩⟩)
  | (have z : ¬ eo b x = (i : Int) := hno
     rw [show dt (p.pages.take k) (f7 b (i : Int)) = dt (p.pages.take (k + 1)) (f7 b (i : Int)) by rw [e1]; unfold f7; rw [decide_eq_false z]; rfl, show dt (p.pages.take k) (iv p.text b (i : Int)) = dt (p.pages.take (k + 1)) (iv p.text b (i : Int)) by rw [e2]; unfold iv; rw [decide_eq_false z]; rfl]
     exact ⟨k + 1, by omega, by omega, ⟨⟨rfl, rfl⟩, zF, zB, zN, zX⟩⟩)
 replace hc := of_decide_eq_false hc
 obtain rfl : k = p.pages.length := by omega
 rw [gg (Nat.le_refl p.pages.length)]
 refine c5 ?_
 refine K3 _ ?_
 refine yS fun _ K11 => ?_
 refine gn [(0, none), (1, none), (2, none), (3, none), (4, none), (5, none), (6, none), (7, none), (9, none), (8, none), (10, none), (11, none), (12, none), (13, none), (14, none), (15, none)] (fun i => [8, 12].contains i) (fun i => [8, 12].contains i) (fun i => [0, 1, 2, 4, 5, 6, 9, 10, 11, 13, 14, 15].contains i) [] (by kernel_rfl) (by kernel_rfl) ?_
 refine xM rfl rfl rfl rfl rfl ?_
 refine af rfl rfl rfl rfl (qi rfl rfl rfl (by omega)) ?_
 refine af rfl rfl rfl rfl (bx rfl rfl rfl) ?_
 try dsimp only [St.put]
 refine aw rfl rfl rfl rfl (bn rfl rfl) ?_
 refine xM rfl rfl rfl rfl rfl ?_
 refine af rfl rfl rfl rfl (kg rfl rfl) ?_
 refine af rfl rfl rfl rfl (bx rfl rfl rfl) ?_
 try dsimp only [St.put]
 refine aw rfl rfl rfl rfl (c := val p) (jj (cs := jx p) rfl rfl (show 4 ≤ 7 by decide)) ?_
 refine xM rfl rfl rfl rfl rfl ?_
 refine ji ?_
 try dsimp only [St.put]
 refine ij rfl rfl rfl rfl (ay rfl rfl rfl (n2 b p) ?_)
 try dsimp only [St.put]
 refine d7 rfl rfl rfl rfl (bu rfl rfl rfl rfl (bp (by assumption)) (Enc.len _)) ?_
 refine d7 rfl rfl rfl rfl (bx rfl rfl rfl) ?_
 try dsimp only [St.put]
 refine ij rfl rfl rfl rfl (SStep.e' (D := fun _ => True) (bn rfl rfl) ?_)
 refine d7 rfl rfl rfl rfl (gq rfl rfl rfl (by omega)) ?_
 refine d7 rfl rfl rfl rfl (xw rfl rfl rfl (by omega) (by omega)) ?_
 refine d7 rfl rfl rfl rfl (fe rfl (by constructor)) ?_
 refine jh ?_
 dsimp only [St.put]
 rw [show (100 * ((dt p.pages (f7 b (i : Int)) : Nat) : Int)) / (100 - r.miss) = nt p b i by unfold nt; rw [hmr]]
 have hbd := ud3 h b i
 refine K11 _ ?_
 refine yS fun _ K12 => ?_
 refine yR ?_
 refine yM rfl rfl ?_
 refine yM rfl rfl ?_
 refine yM rfl rfl ?_
 refine aa rfl (gq rfl rfl rfl (by omega)) ?_
 refine yA rfl rfl ?_
 refine yA rfl rfl ?_
 refine yN ?_
 dsimp only [St.put]
 refine K12 _ ?_
 refine aq ?_
 refine jq rfl (by constructor) (by constructor) zN zS ?_ ?_
 ·rfl
 exact vi (by unfold n9; rfl)
end Go.Proofs.YtbbdginipiljdaaDoor
namespace Go.AB
open Go Go.RowKit
open Go.AB.Enc (cells)
open Go.PB (av aj PlaceD az bd bc bi am ah cc bg ct cw)
theorem uhq {p : ah} (h : e8 p) {j : Nat} {x : am} (hx : p.pages[j]? = some x) {k : Nat} (hk : k < (cx p x).length) : ∃ zn : Nat, (cx p x)[k]? = some (zn : Int) ∧ zn ≤ 6 := by
 have hp := pageB_true.1 (h.page j x hx)
 have h1 := hp.fst
 have h2 := hp.snd
 have h3 := h.nf
 have h4 := h.ns
 obtain ⟨z, hz⟩ : ∃ z, (cx p x)[k]? = some z := ⟨_, List.getElem?_eq_getElem hk⟩
 have hm := List.mem_of_getElem? hz
 have hb : 0 ≤ z ∧ z ≤ 6 := by
  unfold cx at hm
  rw [List.mem_append] at hm
  rcases hm with hm | hm
  ·by_cases q : 0 ≤ x.fst
   ·rw [decide_eq_true q, cond_true, List.mem_singleton] at hm; omega
   rw [decide_eq_false q] at hm; cases hm
  by_cases q : 0 ≤ x.snd
  ·rw [decide_eq_true q, cond_true, List.mem_singleton] at hm; omega
  rw [decide_eq_false q] at hm; cases hm
 exact ⟨z.toNat, by rw [hz]; congr 1; omega, by omega⟩
theorem xf (p : ah) (x : am) : (cx p x).length ≤ 2 := by
 unfold cx
 rw [List.length_append]
 cases decide (0 ≤ x.fst) <;> cases decide (0 ≤ x.snd) <;> simp
end Go.AB
namespace Go.Proofs.YtbbdginipiljdaaDoor
set_option maxRecDepth 10000
open Go.RowKit Go.AB
open Go.AB.Enc (cells)
open Go.PB (av aj PlaceD az bd bc bi am ah cc bg ct cw)
end Go.Proofs.YtbbdginipiljdaaDoor
namespace Go.Proofs.YtbbdginipiljdaaDoor
set_option maxRecDepth 10000
open Go.RowKit Go.AB
open Go.AB.Enc (cells)
open Go.PB (av aj PlaceD az bd bc bi am ah cc bg ct cw)
end Go.Proofs.YtbbdginipiljdaaDoor
namespace Go.AB
open Go Go.RowKit
open Go.AB.Enc (cells)
open Go.PB (av aj PlaceD az bd bc)
theorem lt3 {a b c a' b' c' : Int} : eh [a, b, c] [a', b', c'] < 0 ↔ a < a' ∨ a = a' ∧ (b < b' ∨ b = b' ∧ c < c') := by
 rw [mu (a := [a, b, c]) (b := [a', b', c']) rfl]; simp [ltW]
end Go.AB
namespace Go.Proofs.YtbbdginipiljdaaDoor
set_option maxRecDepth 10000
open Go.RowKit Go.AB
open Go.AB.Enc (cells)
open Go.PB (av aj PlaceD az bd bc)
theorem ue3 (a b : PlaceD) : Pure Tryd.prog 102 [val a, val b] (.v (.bool (decide (eh (cm a) (cm b) < 0)))) := by
 refine co Tryd.func102 rfl (fun m => .v) fun G nx => ?_
 simp only [Tryd.ntmps102, List.length_cons, List.length_nil, Nat.reduceAdd, Nat.reduceSub]
 refine bl fun hlt => ?_
 dsimp only at hlt
 refine yS fun _ K1 => ?_
 refine yR ?_
 try dsimp only [St.put]
 refine yB rfl rfl rfl ?_
 try dsimp only [St.put]
 refine yB rfl rfl rfl ?_
 refine yA rfl rfl ?_
 refine yN ?_
 dsimp only [St.put]
 refine K1 _ ?_
 refine yS fun _ K2 => ?_
 refine yS fun _ K3 => ?_
 refine yR ?_
 refine yF rfl rfl rfl rfl ?_
 refine yL rfl rfl rfl ?_
 refine yF rfl rfl rfl rfl ?_
 refine yL rfl rfl rfl ?_
 refine aa rfl (fm rfl rfl rfl) ?_
 refine yN ?_
 dsimp only [St.put]
 refine K3 _ ?_
 refine ar rfl (fun hc => ?_) (fun hc => ?_)
 ·have h1 : a.ch ≠ b.ch := jm hc
  refine yS fun _ K4 => ?_
  refine yR ?_
  refine yF rfl rfl rfl rfl ?_
  refine yL rfl rfl rfl ?_
  refine yF rfl rfl rfl rfl ?_
  refine yL rfl rfl rfl ?_
  refine aa rfl (ci rfl rfl rfl) ?_
  refine yA rfl rfl ?_
  refine yN ?_
  dsimp only [St.put]
  refine K4 _ ?_
  refine aq ?_
  refine ba rfl (by constructor) zN zS ?_
  exact vb (by rw [decide_eq_decide, cm, cm, lt3]; omega)
 have h1 : a.ch = b.ch := gp hc
 refine ax ?_
 refine K2 _ ?_
 refine yS fun _ K5 => ?_
 refine yS fun _ K6 => ?_
 refine yR ?_
 refine yF rfl rfl rfl rfl ?_
 refine yL rfl rfl rfl ?_
 refine yF rfl rfl rfl rfl ?_
 refine yL rfl rfl rfl ?_
 refine aa rfl (fm rfl rfl rfl) ?_
 refine yN ?_
 dsimp only [St.put]
 refine K6 _ ?_
 refine ar rfl (fun hc => ?_) (fun hc => ?_)
 ·have h2 : a.ln ≠ b.ln := jm hc
  refine yS fun _ K7 => ?_
  refine yR ?_
  refine yF rfl rfl rfl rfl ?_
  refine yL rfl rfl rfl ?_
  refine yF rfl rfl rfl rfl ?_
  refine yL rfl rfl rfl ?_
  refine aa rfl (ci rfl rfl rfl) ?_
  refine yA rfl rfl ?_
  refine yN ?_
  dsimp only [St.put]
  refine K7 _ ?_
  refine aq ?_
  refine ba rfl (by constructor) zN zS ?_
  exact vb (by rw [decide_eq_decide, cm, cm, lt3]; omega)
 have h2 : a.ln = b.ln := gp hc
 refine ax ?_
 refine K5 _ ?_
 refine yS fun _ K8 => ?_
 refine yR ?_
 refine yF rfl rfl rfl rfl ?_
 refine yL rfl rfl rfl ?_
 refine yF rfl rfl rfl rfl ?_
 refine yL rfl rfl rfl ?_
 refine aa rfl (ci rfl rfl rfl) ?_
 refine yA rfl rfl ?_
 refine yN ?_
 dsimp only [St.put]
 refine K8 _ ?_
 refine aq ?_
 refine ba rfl (by constructor) zN zS ?_
 exact vb (by rw [decide_eq_decide, cm, cm, lt3]; omega)
end Go.Proofs.YtbbdginipiljdaaDoor
namespace Go.Proofs.YtbbdginipiljdaaDoor
set_option maxRecDepth 10000
open Go.RowKit Go.AB
open Go.AB.Enc (cells)
open Go.PB (av aj PlaceD az bd bc bi am ah cc bg ct cw)
set_option maxHeartbeats 1000000 in
theorem uau (t : aj) (x : am) (r : Int) (l : List PlaceD) (ht : c6 t = true) : Pure Tryd.prog 79 [ir t, val x, .v (.int .i64 r), lst l] (.v (.bool (gi t x r l))) := by
 refine co Tryd.func79 rfl (fun m => .v) fun G nx => ?_
 simp only [Tryd.ntmps79, List.length_cons, List.length_nil, Nat.reduceAdd, Nat.reduceSub]
 refine bl fun hlt => ?_
 dsimp only at hlt
 refine kr 3 (fun hfl => ?_)
 have hl0 := (fit_lst.1 hfl).1
 refine yS fun _ K1 => ?_
 refine yR ?_
 try dsimp only [St.put]
 refine yB rfl rfl rfl ?_
 try dsimp only [St.put]
 refine yB rfl rfl rfl ?_
 refine yA rfl rfl ?_
 refine yN ?_
 dsimp only [St.put]
 refine K1 _ ?_
 refine yS fun _ K2 => ?_
 refine yS fun _ K3 => ?_
 refine yR ?_
 refine yM rfl rfl ?_
 refine aa rfl (ci rfl rfl rfl) ?_
 refine ef (fun hs => ?_) (fun hs => ?_)
 ·have s1 : r < 0 := of_decide_eq_true hs
  refine yM rfl rfl ?_
  refine yM rfl rfl ?_
  refine aa rfl (bf rfl rfl (List.length_map _)) ?_
  refine aa rfl (gr rfl rfl rfl) ?_
  refine aa rfl (bk rfl rfl (by constructor)) ?_
  refine yN ?_
  dsimp only [St.put]
  refine K3 _ ?_
  refine ar rfl (fun hc => ?_) (fun hc => ?_)
  ·have s2 : 0 < l.length := by
    have := of_decide_eq_true hc
    omega
   refine yS fun _ K4 => ?_
   refine yR ?_
   refine yA rfl rfl ?_
   refine yN ?_
   dsimp only [St.put]
   refine K4 _ ?_
   refine aq ?_
   refine ba rfl (by constructor) zN zS ?_
   exact vb (by
    have e1 : ¬ 0 ≤ r := by omega
    have e2 : l ≠ [] := fun e => by rw [e] at s2; exact absurd s2 (by simp)
    simp [gi, e1, e2])
  have s3 : (decide (0 ≤ r) || decide (l = [])) = true := by
   first
   | (rw [decide_eq_true (show 0 ≤ r by omega)]; rfl)
   | (have := of_decide_eq_false hc
      have : l = [] := List.eq_nil_of_length_eq_zero (by omega)
      simp [this])
  refine ax ?_
  refine K2 _ ?_
  refine yS fun _ K5 => ?_
  refine yS fun _ K6 => ?_
  refine yR ?_
  refine yA rfl rfl ?_
  refine yN ?_
  dsimp only [St.put]
  refine K6 _ ?_
  refine bh ?_
  refine ck 10 ?_
  refine zQ ?_
  refine dd (G) zX ?_
  dsimp only
  refine dc (X := Nat) (fun i => i ≤ l.length ∧ cz t x l i = true) (fun i => l.length - i) (fun i => [(9, .v (.int .i64 (i : Int)))]) (fun i G' => G') 0 rfl ?_ ?_ (fun _ _ h => h) ?_ ?_ ?_
  ·exact ⟨Nat.zero_le _, rfl⟩
  ·exact zF
  ·rintro i hI
   exact zL
  ·exact fun _ _ _ _ h => .inl h
  rintro i hI
  dsimp only at hI ⊢
  refine yS fun _ K7 => ?_
  refine yS fun _ K8 => ?_
  refine yR ?_
  refine yM rfl rfl ?_
  refine yM rfl rfl ?_
  refine aa rfl (bf rfl rfl (List.length_map _)) ?_
  refine aa rfl (ci rfl rfl rfl) ?_
  refine yN ?_
  dsimp only [St.put]
  refine K8 _ ?_
  refine ar rfl (fun hc => ?_) (fun hc => ?_)
  ·replace hc := of_decide_eq_true hc
   obtain ⟨q, hq⟩ : ∃ q, l[i]? = some q := dj (by omega)
   refine ax ?_
   refine K7 _ ?_
   refine yS fun _ K9 => ?_
   refine bh ?_
   refine ck 10 ?_
   refine zQ ?_
   refine ku (X := Bool) (fun d => i2 t x l i = !d) (fun d => [(60, .v (.bool d))]) (fun d G' => G') rfl ?_ (fun _ _ _ _ h => .inl h) ?_ ?_
   ·rintro d hI
    exact zL
   ·refine qu [(0, none), (1, none), (2, none), (3, none), (4, none)] (fun _ => false) (fun i => [1, 2, 3].contains i) 33 (rl [5, 33]) (by kernel_rfl) (by kernel_rfl) ?_
    try dsimp only [St.put]
    refine aw rfl rfl rfl rfl (d9 rfl rfl rfl) ?_
    refine xM rfl rfl rfl rfl rfl ?_
    refine xM rfl rfl rfl rfl rfl ?_
    try dsimp only [St.put]
    refine af rfl rfl rfl rfl (bu rfl rfl rfl rfl (bp (by assumption)) (Enc.len _)) ?_
    try dsimp only [St.put]
    refine aw rfl rfl rfl rfl (d9 rfl rfl (Enc.len _)) ?_
    refine bz ?_
    refine di [5] (by kernel_rfl) (by simp) ?_
    refine dh ?_ ?_
    ·try dsimp only [St.put]
     refine ii rfl rfl rfl (ay rfl rfl rfl (uez t q ht) ?_)
     refine dx [(6, none), (7, none), (8, none), (9, none), (10, none), (11, none), (12, none), (14, none), (15, none), (16, none), (17, none)] (fun i => [6, 7, 9, 10, 11, 14, 16].contains i) 21 (rl [13, 1, 4, 20]) (by kernel_rfl) ?_
     refine af rfl rfl rfl rfl (dp rfl rfl) ?_
     refine i4 (fun hs => ?_) (fun hs => ?_)
     ·have s4 := hs
      refine xM rfl rfl rfl rfl rfl ?_
      refine ai rfl rfl rfl ?_
      refine ai rfl rfl rfl ?_
      refine ai rfl rfl rfl ?_
      refine ai rfl rfl rfl ?_
      refine ai rfl rfl rfl ?_
      refine ai rfl rfl rfl ?_
      refine ai rfl rfl rfl ?_
      refine ai rfl rfl rfl ?_
      refine ai rfl rfl rfl ?_
      refine bz ?_
      refine di [13] (by kernel_rfl) (by simp) ?_
      refine dh ?_ ?_
      ·refine fg rfl rfl rfl ?_
       refine di [18] (by kernel_rfl) (by simp) ?_
       refine dh ?_ ?_
       ·refine fg rfl rfl rfl ?_
        refine dx [(19, none), (20, none), (21, none), (22, none), (23, none), (24, none), (25, none), (26, none), (27, none), (28, none), (29, none), (30, none), (31, none), (32, none), (33, none)] (fun i => [19, 20, 21, 22, 23, 24, 25, 26, 27, 28, 30, 31, 32].contains i) 4 (rl [34, 4]) (by kernel_rfl) ?_
        refine ai rfl rfl rfl ?_
        refine af rfl rfl rfl rfl (bk rfl rfl (by constructor)) ?_
        refine xM rfl rfl rfl rfl rfl ?_
        refine ai rfl rfl rfl ?_
        refine ai rfl rfl rfl ?_
        refine ai rfl rfl rfl ?_
        refine ai rfl rfl rfl ?_
        refine ai rfl rfl rfl ?_
        refine ai rfl rfl rfl ?_
        refine ai rfl rfl rfl ?_
        refine ai rfl rfl rfl ?_
        refine ai rfl rfl rfl ?_
        refine ai rfl rfl rfl ?_
        refine ai rfl rfl rfl ?_
        refine ai rfl rfl rfl ?_
        refine bz ?_
        refine di [34] (by kernel_rfl) (by simp) ?_
        refine dh ?_ ?_
        ·refine fg rfl rfl rfl ?_
         refine dx [(35, none), (36, none), (37, none)] (fun i => [35, 36, 37].contains i) 0 (rl [38]) (by kernel_rfl) ?_
         refine ai rfl rfl rfl ?_
         refine ai rfl rfl rfl ?_
         refine af rfl rfl rfl rfl (bk rfl rfl (by constructor)) ?_
         refine bz ?_
         dsimp only [St.put]
         refine gz (by kernel_rfl) ?_
         refine ⟨_, ?_, ⟨⟨rfl, rfl⟩, zF, zB, zN, zX⟩⟩
         simp_all [i2, gh, l9]
         try (intro h0; omega)
        exact dg
       exact dg
      exact dg
     have hqp : eu t q = true := by simpa using hs
     refine xM rfl rfl rfl rfl rfl ?_
     try dsimp only [St.put]
     refine aw rfl rfl rfl rfl (d9 rfl rfl rfl) ?_
     refine xM rfl rfl rfl rfl rfl ?_
     refine xM rfl rfl rfl rfl rfl ?_
     try dsimp only [St.put]
     refine af rfl rfl rfl rfl (bu rfl rfl rfl rfl (bp (by assumption)) (Enc.len _)) ?_
     try dsimp only [St.put]
     refine aw rfl rfl rfl rfl (d9 rfl rfl (Enc.len _)) ?_
     refine af rfl rfl rfl rfl (bx rfl rfl rfl) ?_
     try dsimp only [St.put]
     refine aw rfl rfl rfl rfl (bn rfl rfl) ?_
     refine af rfl rfl rfl rfl (bx rfl rfl rfl) ?_
     try dsimp only [St.put]
     refine aw rfl rfl rfl rfl (bn rfl rfl) ?_
     refine bz ?_
     refine di [13] (by kernel_rfl) (by simp) ?_
     refine dh ?_ ?_
     ·try dsimp only [St.put]
      refine ii rfl rfl rfl (ay rfl rfl rfl (uaw t q ht hqp) ?_)
      refine di [18] (by kernel_rfl) (by simp) ?_
      refine dh ?_ ?_
      ·try dsimp only [St.put]
       refine ii rfl rfl rfl (ay rfl rfl rfl (qe _ _ _) ?_)
       refine dx [(19, none), (20, none), (21, none), (22, none), (23, none), (24, none), (25, none), (26, none), (27, none), (28, none), (29, none), (30, none), (31, none), (32, none), (33, none)] (fun i => [19, 20, 21, 22, 23, 24, 25, 26, 27, 28, 30, 31, 32].contains i) 4 (rl [34, 4]) (by kernel_rfl) ?_
       refine af rfl rfl rfl rfl (dp rfl rfl) ?_
       refine i4 (fun hs => ?_) (fun hs => ?_)
       ·have s5 := hs
        refine af rfl rfl rfl rfl (cg rfl rfl (by constructor)) ?_
        refine xM rfl rfl rfl rfl rfl ?_
        refine ai rfl rfl rfl ?_
        refine ai rfl rfl rfl ?_
        refine ai rfl rfl rfl ?_
        refine ai rfl rfl rfl ?_
        refine ai rfl rfl rfl ?_
        refine ai rfl rfl rfl ?_
        refine ai rfl rfl rfl ?_
        refine ai rfl rfl rfl ?_
        refine ai rfl rfl rfl ?_
        refine ai rfl rfl rfl ?_
        refine ai rfl rfl rfl ?_
        refine ai rfl rfl rfl ?_
        refine bz ?_
        refine di [34] (by kernel_rfl) (by simp) ?_
        refine dh ?_ ?_
        ·refine fg rfl rfl rfl ?_
         refine dx [(35, none), (36, none), (37, none)] (fun i => [35, 36, 37].contains i) 0 (rl [38]) (by kernel_rfl) ?_
         refine ai rfl rfl rfl ?_
         refine ai rfl rfl rfl ?_
         refine af rfl rfl rfl rfl (bk rfl rfl (by constructor)) ?_
         refine bz ?_
         dsimp only [St.put]
         refine gz (by kernel_rfl) ?_
         refine ⟨_, ?_, ⟨⟨rfl, rfl⟩, zF, zB, zN, zX⟩⟩
         simp_all [i2, gh, l9]
         try (intro h0; omega)
        exact dg
       have s5 := hs
       refine af rfl rfl rfl rfl (cg rfl rfl (by constructor)) ?_
       refine xM rfl rfl rfl rfl rfl ?_
       refine xM rfl rfl rfl rfl rfl ?_
       refine af rfl rfl rfl rfl (gr rfl rfl rfl) ?_
       refine i4 (fun hs => ?_) (fun hs => ?_)
       ·have s6 : 0 < i := by
         have := of_decide_eq_true hs
         omega
        obtain ⟨q0, hq0⟩ : ∃ q0, l[i - 1]? = some q0 := dj (by omega)
        refine xM rfl rfl rfl rfl rfl ?_
        refine xM rfl rfl rfl rfl rfl ?_
        refine xM rfl rfl rfl rfl rfl ?_
        refine af rfl rfl rfl rfl (gq rfl rfl rfl (by omega)) ?_
        try dsimp only [St.put]
        refine af rfl rfl rfl rfl (bu (k := i - 1) rfl rfl rfl (by omega) (bp hq0) (Enc.len _)) ?_
        try dsimp only [St.put]
        refine aw rfl rfl rfl rfl (d9 rfl rfl (Enc.len _)) ?_
        refine xM rfl rfl rfl rfl rfl ?_
        refine xM rfl rfl rfl rfl rfl ?_
        try dsimp only [St.put]
        refine af rfl rfl rfl rfl (bu rfl rfl rfl rfl (bp (by assumption)) (Enc.len _)) ?_
        try dsimp only [St.put]
        refine aw rfl rfl rfl rfl (d9 rfl rfl (Enc.len _)) ?_
        refine bz ?_
        refine di [34] (by kernel_rfl) (by simp) ?_
        refine dh ?_ ?_
        ·try dsimp only [St.put]
         refine ii rfl rfl rfl (ay rfl rfl rfl (ue3 q0 q) ?_)
         refine dx [(35, none), (36, none), (37, none)] (fun i => [35, 36, 37].contains i) 0 (rl [38]) (by kernel_rfl) ?_
         refine af rfl rfl rfl rfl (dp rfl rfl) ?_
         refine af rfl rfl rfl rfl (bk rfl rfl (by constructor)) ?_
         refine af rfl rfl rfl rfl (cg rfl rfl (by constructor)) ?_
         refine bz ?_
         dsimp only [St.put]
         refine gz (by kernel_rfl) ?_
         refine ⟨_, ?_, ⟨⟨rfl, rfl⟩, zF, zB, zN, zX⟩⟩
         simp_all [i2, gh, l9]
         try (intro h0; omega)
        exact dg
       have s6 : i = 0 := by
        have := of_decide_eq_false hs
        omega
       refine xM rfl rfl rfl rfl rfl ?_
       refine ai rfl rfl rfl ?_
       refine ai rfl rfl rfl ?_
       refine ai rfl rfl rfl ?_
       refine ai rfl rfl rfl ?_
       refine ai rfl rfl rfl ?_
       refine ai rfl rfl rfl ?_
       refine ai rfl rfl rfl ?_
       refine ai rfl rfl rfl ?_
       refine ai rfl rfl rfl ?_
       refine bz ?_
       refine di [34] (by kernel_rfl) (by simp) ?_
       refine dh ?_ ?_
       ·refine fg rfl rfl rfl ?_
        refine dx [(35, none), (36, none), (37, none)] (fun i => [35, 36, 37].contains i) 0 (rl [38]) (by kernel_rfl) ?_
        refine ai rfl rfl rfl ?_
        refine af rfl rfl rfl rfl (cg rfl rfl (by constructor)) ?_
        refine af rfl rfl rfl rfl (cg rfl rfl (by constructor)) ?_
        refine bz ?_
        dsimp only [St.put]
        refine gz (by kernel_rfl) ?_
        refine ⟨_, ?_, ⟨⟨rfl, rfl⟩, zF, zB, zN, zX⟩⟩
        simp_all [i2, gh, l9]
        try (intro h0; omega)
       exact dg
      exact dg
     exact dg
    exact dg
   rintro d hst
   dsimp only at hst ⊢
   refine ar rfl (fun hc => ?_) (fun hc => ?_)
   ·skip
    refine yS fun _ K11 => ?_
    refine yR ?_
    refine yA rfl rfl ?_
    refine yN ?_
    dsimp only [St.put]
    refine K11 _ ?_
    refine aq ?_
    refine ba rfl (by constructor) zN zS ?_
    exact vb (by
     have e : i2 t x l i = false := by rw [hst, hc]; rfl
     have : cz t x l l.length = false := by
      refine List.all_eq_false.2 ⟨i, List.mem_range.2 (by omega), by rw [e]; simp⟩
     simp [gi, this])
   skip
   refine ax ?_
   refine K9 _ ?_
   refine yR ?_
   refine yM rfl rfl ?_
   refine aa rfl (ca rfl rfl rfl (by omega)) ?_
   refine yA rfl rfl ?_
   refine yN ?_
   dsimp only [St.put]
   exact ⟨i + 1, by omega, ⟨by omega, by rw [gd, hI.2, hst, hc]; rfl⟩, ⟨⟨rfl, rfl⟩, zF, zB, zN, zX⟩⟩
  replace hc := of_decide_eq_false hc
  obtain rfl : i = l.length := by omega
  refine c5 ?_
  refine K5 _ ?_
  refine yS fun _ K12 => ?_
  refine yR ?_
  refine yA rfl rfl ?_
  refine yN ?_
  dsimp only [St.put]
  refine K12 _ ?_
  refine aq ?_
  refine ba rfl (by constructor) zN zS ?_
  exact vb (by
   unfold gi
   rw [hI.2, Bool.and_true]
   first
   | exact s3.symm
   | (have e1 : 0 ≤ r := by omega
      simp [e1]))
 have s1 : ¬ r < 0 := of_decide_eq_false hs
 refine yM rfl rfl ?_
 refine yK rfl ?_
 refine yK rfl ?_
 refine yK rfl ?_
 refine aa rfl (cg rfl rfl (by constructor)) ?_
 refine yN ?_
 dsimp only [St.put]
 refine K3 _ ?_
 refine ar rfl (fun h => by cases h) (fun _ => ?_)
 have s3 : (decide (0 ≤ r) || decide (l = [])) = true := by
  first
  | (rw [decide_eq_true (show 0 ≤ r by omega)]; rfl)
  | (have := of_decide_eq_false hc
     have : l = [] := List.eq_nil_of_length_eq_zero (by omega)
     simp [this])
 refine ax ?_
 refine K2 _ ?_
 refine yS fun _ K13 => ?_
 refine yS fun _ K14 => ?_
 refine yR ?_
 refine yA rfl rfl ?_
 refine yN ?_
 dsimp only [St.put]
 refine K14 _ ?_
 refine bh ?_
 refine ck 10 ?_
 refine zQ ?_
 refine dd (G) zX ?_
 dsimp only
 refine dc (X := Nat) (fun i => i ≤ l.length ∧ cz t x l i = true) (fun i => l.length - i) (fun i => [(9, .v (.int .i64 (i : Int)))]) (fun i G' => G') 0 rfl ?_ ?_ (fun _ _ h => h) ?_ ?_ ?_
 ·exact ⟨Nat.zero_le _, rfl⟩
 ·exact zF
 ·rintro i hI
  exact zL
 ·exact fun _ _ _ _ h => .inl h
 rintro i hI
 dsimp only at hI ⊢
 refine yS fun _ K15 => ?_
 refine yS fun _ K16 => ?_
 refine yR ?_
 refine yM rfl rfl ?_
 refine yM rfl rfl ?_
 refine aa rfl (bf rfl rfl (List.length_map _)) ?_
 refine aa rfl (ci rfl rfl rfl) ?_
 refine yN ?_
 dsimp only [St.put]
 refine K16 _ ?_
 refine ar rfl (fun hc => ?_) (fun hc => ?_)
 ·replace hc := of_decide_eq_true hc
  obtain ⟨q, hq⟩ : ∃ q, l[i]? = some q := dj (by omega)
  refine ax ?_
  refine K15 _ ?_
  refine yS fun _ K17 => ?_
  refine bh ?_
  refine ck 10 ?_
  refine zQ ?_
  refine ku (X := Bool) (fun d => i2 t x l i = !d) (fun d => [(60, .v (.bool d))]) (fun d G' => G') rfl ?_ (fun _ _ _ _ h => .inl h) ?_ ?_
  ·rintro d hI
   exact zL
  ·refine qu [(0, none), (1, none), (2, none), (3, none), (4, none)] (fun _ => false) (fun i => [1, 2, 3].contains i) 33 (rl [5, 33]) (by kernel_rfl) (by kernel_rfl) ?_
   try dsimp only [St.put]
   refine aw rfl rfl rfl rfl (d9 rfl rfl rfl) ?_
   refine xM rfl rfl rfl rfl rfl ?_
   refine xM rfl rfl rfl rfl rfl ?_
   try dsimp only [St.put]
   refine af rfl rfl rfl rfl (bu rfl rfl rfl rfl (bp (by assumption)) (Enc.len _)) ?_
   try dsimp only [St.put]
   refine aw rfl rfl rfl rfl (d9 rfl rfl (Enc.len _)) ?_
   refine bz ?_
   refine di [5] (by kernel_rfl) (by simp) ?_
   refine dh ?_ ?_
   ·try dsimp only [St.put]
    refine ii rfl rfl rfl (ay rfl rfl rfl (uez t q ht) ?_)
    refine dx [(6, none), (7, none), (8, none), (9, none), (10, none), (11, none), (12, none), (14, none), (15, none), (16, none), (17, none)] (fun i => [6, 7, 9, 10, 11, 14, 16].contains i) 21 (rl [13, 1, 4, 20]) (by kernel_rfl) ?_
    refine af rfl rfl rfl rfl (dp rfl rfl) ?_
    refine i4 (fun hs => ?_) (fun hs => ?_)
    ·have s4 := hs
     refine xM rfl rfl rfl rfl rfl ?_
     refine ai rfl rfl rfl ?_
     refine ai rfl rfl rfl ?_
     refine ai rfl rfl rfl ?_
     refine ai rfl rfl rfl ?_
     refine ai rfl rfl rfl ?_
     refine ai rfl rfl rfl ?_
     refine ai rfl rfl rfl ?_
     refine ai rfl rfl rfl ?_
     refine ai rfl rfl rfl ?_
     refine bz ?_
     refine di [13] (by kernel_rfl) (by simp) ?_
     refine dh ?_ ?_
     ·refine fg rfl rfl rfl ?_
      refine di [18] (by kernel_rfl) (by simp) ?_
      refine dh ?_ ?_
      ·refine fg rfl rfl rfl ?_
       refine dx [(19, none), (20, none), (21, none), (22, none), (23, none), (24, none), (25, none), (26, none), (27, none), (28, none), (29, none), (30, none), (31, none), (32, none), (33, none)] (fun i => [19, 20, 21, 22, 23, 24, 25, 26, 27, 28, 30, 31, 32].contains i) 4 (rl [34, 4]) (by kernel_rfl) ?_
       refine ai rfl rfl rfl ?_
       refine af rfl rfl rfl rfl (bk rfl rfl (by constructor)) ?_
       refine xM rfl rfl rfl rfl rfl ?_
       refine ai rfl rfl rfl ?_
       refine ai rfl rfl rfl ?_
       refine ai rfl rfl rfl ?_
       refine ai rfl rfl rfl ?_
       refine ai rfl rfl rfl ?_
       refine ai rfl rfl rfl ?_
       refine ai rfl rfl rfl ?_
       refine ai rfl rfl rfl ?_
       refine ai rfl rfl rfl ?_
       refine ai rfl rfl rfl ?_
       refine ai rfl rfl rfl ?_
       refine ai rfl rfl rfl ?_
       refine bz ?_
       refine di [34] (by kernel_rfl) (by simp) ?_
       refine dh ?_ ?_
       ·refine fg rfl rfl rfl ?_
        refine dx [(35, none), (36, none), (37, none)] (fun i => [35, 36, 37].contains i) 0 (rl [38]) (by kernel_rfl) ?_
        refine ai rfl rfl rfl ?_
        refine ai rfl rfl rfl ?_
        refine af rfl rfl rfl rfl (bk rfl rfl (by constructor)) ?_
        refine bz ?_
        dsimp only [St.put]
        refine gz (by kernel_rfl) ?_
        refine ⟨_, ?_, ⟨⟨rfl, rfl⟩, zF, zB, zN, zX⟩⟩
        simp_all [i2, gh, l9]
        try (intro h0; omega)
       exact dg
      exact dg
     exact dg
    have hqp : eu t q = true := by simpa using hs
    refine xM rfl rfl rfl rfl rfl ?_
    try dsimp only [St.put]
    refine aw rfl rfl rfl rfl (d9 rfl rfl rfl) ?_
    refine xM rfl rfl rfl rfl rfl ?_
    refine xM rfl rfl rfl rfl rfl ?_
    try dsimp only [St.put]
    refine af rfl rfl rfl rfl (bu rfl rfl rfl rfl (bp (by assumption)) (Enc.len _)) ?_
    try dsimp only [St.put]
    refine aw rfl rfl rfl rfl (d9 rfl rfl (Enc.len _)) ?_
    refine af rfl rfl rfl rfl (bx rfl rfl rfl) ?_
    try dsimp only [St.put]
    refine aw rfl rfl rfl rfl (bn rfl rfl) ?_
    refine af rfl rfl rfl rfl (bx rfl rfl rfl) ?_
    try dsimp only [St.put]
    refine aw rfl rfl rfl rfl (bn rfl rfl) ?_
    refine bz ?_
    refine di [13] (by kernel_rfl) (by simp) ?_
    refine dh ?_ ?_
    ·try dsimp only [St.put]
     refine ii rfl rfl rfl (ay rfl rfl rfl (uaw t q ht hqp) ?_)
     refine di [18] (by kernel_rfl) (by simp) ?_
     refine dh ?_ ?_
     ·try dsimp only [St.put]
      refine ii rfl rfl rfl (ay rfl rfl rfl (qe _ _ _) ?_)
      refine dx [(19, none), (20, none), (21, none), (22, none), (23, none), (24, none), (25, none), (26, none), (27, none), (28, none), (29, none), (30, none), (31, none), (32, none), (33, none)] (fun i => [19, 20, 21, 22, 23, 24, 25, 26, 27, 28, 30, 31, 32].contains i) 4 (rl [34, 4]) (by kernel_rfl) ?_
      refine af rfl rfl rfl rfl (dp rfl rfl) ?_
      refine i4 (fun hs => ?_) (fun hs => ?_)
      ·have s5 := hs
       refine af rfl rfl rfl rfl (cg rfl rfl (by constructor)) ?_
       refine xM rfl rfl rfl rfl rfl ?_
       refine ai rfl rfl rfl ?_
       refine ai rfl rfl rfl ?_
       refine ai rfl rfl rfl ?_
       refine ai rfl rfl rfl ?_
       refine ai rfl rfl rfl ?_
       refine ai rfl rfl rfl ?_
       refine ai rfl rfl rfl ?_
       refine ai rfl rfl rfl ?_
       refine ai rfl rfl rfl ?_
       refine ai rfl rfl rfl ?_
       refine ai rfl rfl rfl ?_
       refine ai rfl rfl rfl ?_
       refine bz ?_
       refine di [34] (by kernel_rfl) (by simp) ?_
       refine dh ?_ ?_
       ·refine fg rfl rfl rfl ?_
        refine dx [(35, none), (36, none), (37, none)] (fun i => [35, 36, 37].contains i) 0 (rl [38]) (by kernel_rfl) ?_
        refine ai rfl rfl rfl ?_
        refine ai rfl rfl rfl ?_
        refine af rfl rfl rfl rfl (bk rfl rfl (by constructor)) ?_
        refine bz ?_
        dsimp only [St.put]
        refine gz (by kernel_rfl) ?_
        refine ⟨_, ?_, ⟨⟨rfl, rfl⟩, zF, zB, zN, zX⟩⟩
        simp_all [i2, gh, l9]
        try (intro h0; omega)
       exact dg
      have s5 := hs
      refine af rfl rfl rfl rfl (cg rfl rfl (by constructor)) ?_
      refine xM rfl rfl rfl rfl rfl ?_
      refine xM rfl rfl rfl rfl rfl ?_
      refine af rfl rfl rfl rfl (gr rfl rfl rfl) ?_
      refine i4 (fun hs => ?_) (fun hs => ?_)
      ·have s6 : 0 < i := by
        have := of_decide_eq_true hs
        omega
       obtain ⟨q0, hq0⟩ : ∃ q0, l[i - 1]? = some q0 := dj (by omega)
       refine xM rfl rfl rfl rfl rfl ?_
       refine xM rfl rfl rfl rfl rfl ?_
       refine xM rfl rfl rfl rfl rfl ?_
       refine af rfl rfl rfl rfl (gq rfl rfl rfl (by omega)) ?_
       try dsimp only [St.put]
       refine af rfl rfl rfl rfl (bu (k := i - 1) rfl rfl rfl (by omega) (bp hq0) (Enc.len _)) ?_
       try dsimp only [St.put]
       refine aw rfl rfl rfl rfl (d9 rfl rfl (Enc.len _)) ?_
       refine xM rfl rfl rfl rfl rfl ?_
       refine xM rfl rfl rfl rfl rfl ?_
       try dsimp only [St.put]
       refine af rfl rfl rfl rfl (bu rfl rfl rfl rfl (bp (by assumption)) (Enc.len _)) ?_
       try dsimp only [St.put]
       refine aw rfl rfl rfl rfl (d9 rfl rfl (Enc.len _)) ?_
       refine bz ?_
       refine di [34] (by kernel_rfl) (by simp) ?_
       refine dh ?_ ?_
       ·try dsimp only [St.put]
        refine ii rfl rfl rfl (ay rfl rfl rfl (ue3 q0 q) ?_)
        refine dx [(35, none), (36, none), (37, none)] (fun i => [35, 36, 37].contains i) 0 (rl [38]) (by kernel_rfl) ?_
        refine af rfl rfl rfl rfl (dp rfl rfl) ?_
        refine af rfl rfl rfl rfl (bk rfl rfl (by constructor)) ?_
        refine af rfl rfl rfl rfl (cg rfl rfl (by constructor)) ?_
        refine bz ?_
        dsimp only [St.put]
        refine gz (by kernel_rfl) ?_
        refine ⟨_, ?_, ⟨⟨rfl, rfl⟩, zF, zB, zN, zX⟩⟩
        simp_all [i2, gh, l9]
        try (intro h0; omega)
       exact dg
      have s6 : i = 0 := by
       have := of_decide_eq_false hs
       omega
      refine xM rfl rfl rfl rfl rfl ?_
      refine ai rfl rfl rfl ?_
      refine ai rfl rfl rfl ?_
      refine ai rfl rfl rfl ?_
      refine ai rfl rfl rfl ?_
      refine ai rfl rfl rfl ?_
      refine ai rfl rfl rfl ?_
      refine ai rfl rfl rfl ?_
      refine ai rfl rfl rfl ?_
      refine ai rfl rfl rfl ?_
      refine bz ?_
      refine di [34] (by kernel_rfl) (by simp) ?_
      refine dh ?_ ?_
      ·refine fg rfl rfl rfl ?_
       refine dx [(35, none), (36, none), (37, none)] (fun i => [35, 36, 37].contains i) 0 (rl [38]) (by kernel_rfl) ?_
       refine ai rfl rfl rfl ?_
       refine af rfl rfl rfl rfl (cg rfl rfl (by constructor)) ?_
       refine af rfl rfl rfl rfl (cg rfl rfl (by constructor)) ?_
       refine bz ?_
       dsimp only [St.put]
       refine gz (by kernel_rfl) ?_
       refine ⟨_, ?_, ⟨⟨rfl, rfl⟩, zF, zB, zN, zX⟩⟩
       simp_all [i2, gh, l9]
       try (intro h0; omega)
      exact dg
     exact dg
    exact dg
   exact dg
  rintro d hst
  dsimp only at hst ⊢
  refine ar rfl (fun hc => ?_) (fun hc => ?_)
  ·skip
   refine yS fun _ K19 => ?_
   refine yR ?_
   refine yA rfl rfl ?_
   refine yN ?_
   dsimp only [St.put]
   refine K19 _ ?_
   refine aq ?_
   refine ba rfl (by constructor) zN zS ?_
   exact vb (by
    have e : i2 t x l i = false := by rw [hst, hc]; rfl
    have : cz t x l l.length = false := by
     refine List.all_eq_false.2 ⟨i, List.mem_range.2 (by omega), by rw [e]; simp⟩
    simp [gi, this])
  skip
  refine ax ?_
  refine K17 _ ?_
  refine yR ?_
  refine yM rfl rfl ?_
  refine aa rfl (ca rfl rfl rfl (by omega)) ?_
  refine yA rfl rfl ?_
  refine yN ?_
  dsimp only [St.put]
  exact ⟨i + 1, by omega, ⟨by omega, by rw [gd, hI.2, hst, hc]; rfl⟩, ⟨⟨rfl, rfl⟩, zF, zB, zN, zX⟩⟩
 replace hc := of_decide_eq_false hc
 obtain rfl : i = l.length := by omega
 refine c5 ?_
 refine K13 _ ?_
 refine yS fun _ K20 => ?_
 refine yR ?_
 refine yA rfl rfl ?_
 refine yN ?_
 dsimp only [St.put]
 refine K20 _ ?_
 refine aq ?_
 refine ba rfl (by constructor) zN zS ?_
 exact vb (by
  unfold gi
  rw [hI.2, Bool.and_true]
  first
  | exact s3.symm
  | (have e1 : 0 ≤ r := by omega
     simp [e1]))
end Go.Proofs.YtbbdginipiljdaaDoor
namespace Go.AB
open Go Go.RowKit
open Go.AB.Enc (cells)
open Go.PB (av aj PlaceD az bd bc bi am ah cc bg ct cw)
def lx (p : ah) (last : Int) (x : am) : Bool := decide (last < x.fr) && decide (x.fr ≤ x.to) && decide (x.to < (lv p.text : Int)) && inB x.fst (-1) ((p.firsts.length : Int) - 1) && inB x.snd (-1) ((p.seconds.length : Int) - 1)
theorem uo (p : ah) (last : Int) (x : am) : k7 p last x = (lx p last x && (gi p.text x x.fst x.found && gi p.text x x.snd x.well)) := by
 unfold k7 lx
 cases decide (last < x.fr) <;> cases decide (x.fr ≤ x.to) <;> cases decide (x.to < (lv p.text : Int)) <;> cases inB x.fst (-1) ((p.firsts.length : Int) - 1) <;> cases inB x.snd (-1) ((p.seconds.length : Int) - 1) <;> simp
theorem xh {p : ah} {j : Nat} {x : am} (h : p.pages[j]? = some x) : r7 p j = k7 p (gk p.pages j) x := by unfold r7; rw [h]
theorem uck {l : List am} {j : Nat} {x : am} (h : l[j]? = some x) : gk l (j + 1) = x.to := by simp only [gk, h]
theorem un {p : ah} {j : Nat} {x : am} (h : p.pages[j]? = some x) (hb : k7 p (gk p.pages j) x = false) : ff p = false := by
 have : o9 p p.pages.length = false := List.all_eq_false.2 ⟨j, List.mem_range.2 (List.getElem?_eq_some_iff.1 h).1, by rw [xh h, hb]; simp⟩
 simp [ff, this]
end Go.AB
namespace Go.Proofs.YtbbdginipiljdaaDoor
set_option maxRecDepth 10000
open Go.RowKit Go.AB
open Go.AB.Enc (cells)
open Go.PB (av aj PlaceD az bd bc bi am ah cc bg ct cw)
set_option maxHeartbeats 2000000 in
theorem uhx (p : ah) (ht : c6 p.text = true) : Pure Tryd.prog 47 [val p] (.v (.bool (ff p))) := by
 refine co Tryd.func47 rfl (fun m => .v) fun G nx => ?_
 simp only [Tryd.ntmps47, List.length_cons, List.length_nil, Nat.reduceAdd, Nat.reduceSub]
 refine bl fun hlt => ?_
 dsimp only at hlt
 refine yS fun _ K1 => ?_
 refine yR ?_
 try dsimp only [St.put]
 refine yB rfl rfl rfl ?_
 refine yA rfl rfl ?_
 refine yN ?_
 dsimp only [St.put]
 refine K1 _ ?_
 refine yS fun _ K2 => ?_
 refine yS fun _ K3 => ?_
 refine yR ?_
 refine yF rfl rfl rfl rfl ?_
 refine yL rfl rfl rfl ?_
 refine aa rfl (bf rfl rfl (List.length_map _)) ?_
 refine aa rfl (gr rfl rfl rfl) ?_
 refine ef (fun hs => ?_) (fun hs => ?_)
 ·have s1 : ¬ p.firsts.length ≤ 3 := by
   have := of_decide_eq_true hs
   omega
  refine yM rfl rfl ?_
  refine yK rfl ?_
  refine yK rfl ?_
  refine yK rfl ?_
  refine yK rfl ?_
  refine aa rfl (bk rfl rfl (by constructor)) ?_
  refine yM rfl rfl ?_
  refine yK rfl ?_
  refine yK rfl ?_
  refine yK rfl ?_
  refine yK rfl ?_
  refine aa rfl (bk rfl rfl (by constructor)) ?_
  refine yN ?_
  dsimp only [St.put]
  refine K3 _ ?_
  refine ar rfl (fun _ => ?_) (fun h => by cases h)
  refine yS fun _ K4 => ?_
  refine yR ?_
  refine yA rfl rfl ?_
  refine yN ?_
  dsimp only [St.put]
  refine K4 _ ?_
  refine aq ?_
  refine ba rfl (by constructor) zN zS ?_
  exact vb (by first | (simp [ff, jc, s1]; done) | (simp [ff, jc, s2]; done) | (simp [ff, s3]; done))
 have s1 : p.firsts.length ≤ 3 := by
  have := of_decide_eq_false hs
  omega
 refine yM rfl rfl ?_
 refine yF rfl rfl rfl rfl ?_
 refine yL rfl rfl rfl ?_
 refine aa rfl (bf rfl rfl (List.length_map _)) ?_
 refine aa rfl (gr rfl rfl rfl) ?_
 refine ef (fun hs => ?_) (fun hs => ?_)
 ·have s2 : ¬ p.seconds.length ≤ 3 := by
   have := of_decide_eq_true hs
   omega
  refine aa rfl (cg rfl rfl (by constructor)) ?_
  refine yM rfl rfl ?_
  refine yK rfl ?_
  refine yK rfl ?_
  refine yK rfl ?_
  refine yK rfl ?_
  refine aa rfl (bk rfl rfl (by constructor)) ?_
  refine yN ?_
  dsimp only [St.put]
  refine K3 _ ?_
  refine ar rfl (fun _ => ?_) (fun h => by cases h)
  refine yS fun _ K5 => ?_
  refine yR ?_
  refine yA rfl rfl ?_
  refine yN ?_
  dsimp only [St.put]
  refine K5 _ ?_
  refine aq ?_
  refine ba rfl (by constructor) zN zS ?_
  exact vb (by first | (simp [ff, jc, s1]; done) | (simp [ff, jc, s2]; done) | (simp [ff, s3]; done))
 have s2 : p.seconds.length ≤ 3 := by
  have := of_decide_eq_false hs
  omega
 refine aa rfl (cg rfl rfl (by constructor)) ?_
 refine yM rfl rfl ?_
 refine yF rfl rfl rfl rfl ?_
 refine yL rfl rfl rfl ?_
 refine aa rfl (bf rfl rfl (List.length_map _)) ?_
 refine aa rfl (gr rfl rfl rfl) ?_
 refine ef (fun hs => ?_) (fun hs => ?_)
 ·have s3 : ¬ p.pages.length ≤ 8 := by
   have := of_decide_eq_true hs
   omega
  refine aa rfl (cg rfl rfl (by constructor)) ?_
  refine yN ?_
  dsimp only [St.put]
  refine K3 _ ?_
  refine ar rfl (fun _ => ?_) (fun h => by cases h)
  refine yS fun _ K6 => ?_
  refine yR ?_
  refine yA rfl rfl ?_
  refine yN ?_
  dsimp only [St.put]
  refine K6 _ ?_
  refine aq ?_
  refine ba rfl (by constructor) zN zS ?_
  exact vb (by first | (simp [ff, jc, s1]; done) | (simp [ff, jc, s2]; done) | (simp [ff, s3]; done))
 have s3 : p.pages.length ≤ 8 := by
  have := of_decide_eq_false hs
  omega
 obtain ⟨A, hA⟩ : ∃ A, p.firsts ++ p.seconds = A := ⟨_, rfl⟩
 have hAl : A.length ≤ 6 := by rw [← hA, List.length_append]; omega
 refine aa rfl (cg rfl rfl (by constructor)) ?_
 refine yN ?_
 dsimp only [St.put]
 refine K3 _ ?_
 refine ar rfl (fun h => by cases h) (fun _ => ?_)
 refine ax ?_
 refine K2 _ ?_
 refine yS fun _ K7 => ?_
 refine yR ?_
 refine yA rfl rfl ?_
 refine yN ?_
 dsimp only [St.put]
 refine K7 _ ?_
 refine uem 3 66 2 rfl (by decide) ?_
 refine yS fun _ K8 => ?_
 refine gn [(0, none), (1, none), (2, none), (4, none), (5, none), (3, none), (6, none), (7, none)] (fun i => [6].contains i) (fun i => [3, 6].contains i) (fun i => [0, 1, 4, 7].contains i) [] (by kernel_rfl) (by kernel_rfl) ?_
 refine xM rfl rfl rfl rfl rfl ?_
 refine af rfl rfl rfl rfl (bx rfl rfl rfl) ?_
 try dsimp only [St.put]
 refine aw rfl rfl rfl rfl (bn rfl rfl) ?_
 refine af rfl rfl rfl rfl (bx rfl rfl rfl) ?_
 try dsimp only [St.put]
 refine aw rfl rfl rfl rfl (bn rfl rfl) ?_
 refine ji ?_
 try dsimp only [St.put]
 refine j7 rfl rfl rfl (vr (xs := ([] : List bi)) p.firsts rfl rfl zG rfl rfl rfl rfl zA zA (fun v1 => ⟨zD, ?_⟩))
 try dsimp only [St.put]
 refine j7 rfl rfl rfl (vr (xs := ([] : List bi) ++ p.firsts) p.seconds rfl rfl zG rfl rfl rfl rfl zA zA (fun v2 => ⟨zD, ?_⟩))
 refine d7 rfl rfl rfl rfl (fe rfl (by constructor)) ?_
 refine jh ?_
 dsimp only [St.put]
 refine K8 _ ?_
 refine y9 3 (([] : List bi) ++ p.firsts ++ p.seconds) rfl zG rfl rfl rfl ?_
 refine dd G zX ?_
 dsimp only
 rw [show ([] : List bi) ++ p.firsts ++ p.seconds = A from hA]
 refine yS fun _ K9 => ?_
 refine yS fun _ K10 => ?_
 refine yR ?_
 refine yA rfl rfl ?_
 refine yN ?_
 dsimp only [St.put]
 refine K10 _ ?_
 refine bh ?_
 refine ck 9 ?_
 refine zQ ?_
 refine dd (G) zX ?_
 dsimp only
 refine dc (X := Nat) (fun i => i ≤ A.length ∧ (A.take i).all f3 = true ∧ ((A.take i).map (·.id)).Nodup) (fun i => A.length - i) (fun i => [(4, .v (.int .i64 (i : Int))), (5, .any)]) (fun i G' => G') 0 rfl ?_ ?_ (fun _ _ h => h) ?_ ?_ ?_
 ·exact ⟨Nat.zero_le _, rfl, by simp⟩
 ·exact zF
 ·rintro i hI
  exact zL
 ·exact fun _ _ _ _ h => .inl h
 rintro i hI
 dsimp only at hI ⊢
 refine yS fun _ K11 => ?_
 refine yS fun _ K12 => ?_
 refine yR ?_
 refine yM rfl rfl ?_
 refine yM rfl rfl ?_
 refine aa rfl (bf rfl rfl (List.length_map _)) ?_
 refine aa rfl (ci rfl rfl rfl) ?_
 refine yN ?_
 dsimp only [St.put]
 refine K12 _ ?_
 refine ar rfl (fun hc => ?_) (fun hc => ?_)
 ·replace hc := of_decide_eq_true hc
  obtain ⟨r, hr⟩ : ∃ r, A[i]? = some r := dj (by omega)
  refine ax ?_
  refine K11 _ ?_
  refine yS fun _ K13 => ?_
  refine bh ?_
  refine yS fun _ K14 => ?_
  refine yS fun _ K15 => ?_
  refine yR ?_
  refine yM rfl rfl ?_
  refine yM rfl rfl ?_
  refine aa rfl (bu rfl rfl rfl rfl (bp (by assumption)) (Enc.len _)) ?_
  refine yF rfl rfl rfl rfl ?_
  refine yL rfl rfl rfl ?_
  try dsimp only [St.put]
  refine ae rfl (ay rfl rfl rfl (qe _ _ _) ?_)
  refine aa rfl (dp rfl rfl) ?_
  refine ef (fun hs => ?_) (fun hs => ?_)
  ·have q1 : inB r.id 0 9999 = false := by simpa using hs
   refine yM rfl rfl ?_
   refine yK rfl ?_
   refine yK rfl ?_
   refine yK rfl ?_
   refine yK rfl ?_
   refine yK rfl ?_
   refine yK rfl ?_
   refine yK rfl ?_
   refine aa rfl (bk rfl rfl (by constructor)) ?_
   refine yN ?_
   dsimp only [St.put]
   refine K15 _ ?_
   refine ar rfl (fun _ => ?_) (fun h => by cases h)
   refine yS fun _ K16 => ?_
   refine yR ?_
   refine yA rfl rfl ?_
   refine yN ?_
   dsimp only [St.put]
   refine K16 _ ?_
   refine aq ?_
   refine ba rfl (by constructor) zN zS ?_
   exact vb (by
    have hb : f3 r = false := by first | (simp [f3, q1]; done) | (simp [f3, q2]; done)
    have : A.all f3 = false := ju hr hb
    rw [← hA] at this
    simp only [ff, jc, this, Bool.and_false, Bool.false_and])
  have q1 : inB r.id 0 9999 = true := by simpa using hs
  refine yM rfl rfl ?_
  refine yM rfl rfl ?_
  refine yM rfl rfl ?_
  refine aa rfl (bu rfl rfl rfl rfl (bp (by assumption)) (Enc.len _)) ?_
  refine yF rfl rfl rfl rfl ?_
  refine yL rfl rfl rfl ?_
  try dsimp only [St.put]
  refine ae rfl (ay rfl rfl rfl (qe _ _ _) ?_)
  refine aa rfl (dp rfl rfl) ?_
  refine ef (fun hs => ?_) (fun hs => ?_)
  ·have q2 : inB r.miss 0 90 = false := by simpa using hs
   refine aa rfl (cg rfl rfl (by constructor)) ?_
   refine yN ?_
   dsimp only [St.put]
   refine K15 _ ?_
   refine ar rfl (fun _ => ?_) (fun h => by cases h)
   refine yS fun _ K17 => ?_
   refine yR ?_
   refine yA rfl rfl ?_
   refine yN ?_
   dsimp only [St.put]
   refine K17 _ ?_
   refine aq ?_
   refine ba rfl (by constructor) zN zS ?_
   exact vb (by
    have hb : f3 r = false := by first | (simp [f3, q1]; done) | (simp [f3, q2]; done)
    have : A.all f3 = false := ju hr hb
    rw [← hA] at this
    simp only [ff, jc, this, Bool.and_false, Bool.false_and])
  have q2 : inB r.miss 0 90 = true := by simpa using hs
  have hrb : f3 r = true := by simp [f3, q1, q2]
  refine aa rfl (cg rfl rfl (by constructor)) ?_
  refine yN ?_
  dsimp only [St.put]
  refine K15 _ ?_
  refine ar rfl (fun h => by cases h) (fun _ => ?_)
  refine ax ?_
  refine K14 _ ?_
  refine yS fun _ K18 => ?_
  refine yR ?_
  refine yA rfl rfl ?_
  refine yN ?_
  dsimp only [St.put]
  refine K18 _ ?_
  refine bh ?_
  refine ck 9 ?_
  refine zQ ?_
  refine dd (G) zX ?_
  dsimp only
  refine dc (X := Nat) (fun k => k ≤ i ∧ ∀ y ∈ A.take k, y.id ≠ r.id) (fun k => i - k) (fun k => [(5, .v (.int .i64 (k : Int)))]) (fun k G' => G') 0 rfl ?_ ?_ (fun _ _ h => h) ?_ ?_ ?_
  ·exact ⟨Nat.zero_le _, by simp⟩
  ·exact zF
  ·rintro k hI
   exact zL
  ·exact fun _ _ _ _ h => .inl h
  rintro k hJ
  dsimp only at hJ ⊢
  refine yS fun _ K19 => ?_
  refine yS fun _ K20 => ?_
  refine yR ?_
  refine yM rfl rfl ?_
  refine yM rfl rfl ?_
  refine aa rfl (ci rfl rfl rfl) ?_
  refine yN ?_
  dsimp only [St.put]
  refine K20 _ ?_
  refine ar rfl (fun hc => ?_) (fun hc => ?_)
  ·replace hc := of_decide_eq_true hc
   obtain ⟨y, hy⟩ : ∃ y, A[k]? = some y := dj (by omega)
   refine ax ?_
   refine K19 _ ?_
   refine yS fun _ K21 => ?_
   refine bh ?_
   refine yS fun _ K22 => ?_
   refine gn [(0, none), (1, none), (2, none), (3, none), (4, none), (5, none), (6, none), (7, none), (8, none), (9, none), (10, none)] (fun i => [].contains i) (fun i => [].contains i) (fun i => [0, 1, 2, 3, 5, 6, 7, 8, 10].contains i) [] (by kernel_rfl) (by kernel_rfl) ?_
   refine xM rfl rfl rfl rfl rfl ?_
   refine xM rfl rfl rfl rfl rfl ?_
   try dsimp only [St.put]
   refine af rfl rfl rfl rfl (bu rfl rfl rfl rfl (bp (by assumption)) (Enc.len _)) ?_
   refine af rfl rfl rfl rfl (bx rfl rfl rfl) ?_
   try dsimp only [St.put]
   refine aw rfl rfl rfl rfl (bn rfl rfl) ?_
   refine xM rfl rfl rfl rfl rfl ?_
   refine xM rfl rfl rfl rfl rfl ?_
   try dsimp only [St.put]
   refine af rfl rfl rfl rfl (bu rfl rfl rfl rfl (bp (by assumption)) (Enc.len _)) ?_
   refine af rfl rfl rfl rfl (bx rfl rfl rfl) ?_
   try dsimp only [St.put]
   refine aw rfl rfl rfl rfl (bn rfl rfl) ?_
   refine af rfl rfl rfl rfl (ec rfl rfl rfl) ?_
   refine bz ?_
   dsimp only [St.put]
   refine K22 _ ?_
   refine ar rfl (fun hc => ?_) (fun hc => ?_)
   ·have hyr : y.id = r.id := of_decide_eq_true hc
    refine yS fun _ K23 => ?_
    refine yR ?_
    refine yA rfl rfl ?_
    refine yN ?_
    dsimp only [St.put]
    refine K23 _ ?_
    refine aq ?_
    refine ba rfl (by constructor) zN zS ?_
    exact vb (by
     have : ¬ (A.map (·.id)).Nodup := xr hy hr (by omega) hyr
     rw [← hA] at this
     simp only [ff, jc, decide_eq_false this, Bool.and_false, Bool.false_and])
   have hne : y.id ≠ r.id := of_decide_eq_false hc
   refine ax ?_
   refine K21 _ ?_
   refine yR ?_
   refine yM rfl rfl ?_
   refine aa rfl (ca rfl rfl rfl (by omega)) ?_
   refine yA rfl rfl ?_
   refine yN ?_
   dsimp only [St.put]
   exact ⟨k + 1, by omega, ⟨by omega, ub6 (p := fun y : bi => y.id ≠ r.id) hy hne hJ.2⟩, ⟨⟨rfl, rfl⟩, zF, zB, zN, zX⟩⟩
  replace hc := of_decide_eq_false hc
  have hki : k = i := by omega
  rw [hki] at hJ
  have hnd : r.id ∉ (A.take i).map (·.id) := fun hm => by
   obtain ⟨y, hy1, hy2⟩ := List.mem_map.1 hm
   exact hJ.2 y hy1 hy2
  refine c5 ?_
  refine K13 _ ?_
  refine yR ?_
  refine yM rfl rfl ?_
  refine aa rfl (ca rfl rfl rfl (by omega)) ?_
  refine yA rfl rfl ?_
  refine yN ?_
  dsimp only [St.put]
  exact ⟨i + 1, by omega, ⟨by omega, by rw [pu hr, hI.2.1, hrb]; rfl, by rw [n7 hr]; exact xu hI.2.2 hnd⟩, ⟨⟨rfl, rfl⟩, zF, zB, zN, zX⟩⟩
 replace hc := of_decide_eq_false hc
 have hRB : jc p = true := by
  have h1 := hI.2.1
  have h2 := hI.2.2
  rw [gg (show A.length ≤ i by omega), ← hA] at h1 h2
  unfold jc
  rw [h1, decide_eq_true h2, decide_eq_true s1, decide_eq_true s2]; rfl
 refine c5 ?_
 refine K9 _ ?_
 refine yS fun _ K24 => ?_
 refine yR ?_
 refine yA rfl rfl ?_
 refine yN ?_
 dsimp only [St.put]
 refine K24 _ ?_
 refine yS fun _ K25 => ?_
 refine yS fun _ K26 => ?_
 refine yR ?_
 refine yA rfl rfl ?_
 refine yN ?_
 dsimp only [St.put]
 refine K26 _ ?_
 refine bh ?_
 refine ck 9 ?_
 refine zQ ?_
 refine dd (G) zX ?_
 dsimp only
 refine dc (X := Nat) (fun j => j ≤ p.pages.length ∧ o9 p j = true) (fun j => p.pages.length - j) (fun j => [(6, .v (.int .i64 (gk p.pages j))), (7, .v (.int .i64 (j : Int))), (8, .any)]) (fun j G' => G') 0 rfl ?_ ?_ (fun _ _ h => h) ?_ ?_ ?_
 ·exact ⟨Nat.zero_le _, rfl⟩
 ·exact zF
 ·rintro j hI
  exact zL
 ·exact fun _ _ _ _ h => .inl h
 rintro j hK
 dsimp only at hK ⊢
 refine yS fun _ K27 => ?_
 refine yS fun _ K28 => ?_
 refine yR ?_
 refine yM rfl rfl ?_
 refine yF rfl rfl rfl rfl ?_
 refine yL rfl rfl rfl ?_
 refine aa rfl (bf rfl rfl (List.length_map _)) ?_
 refine aa rfl (ci rfl rfl rfl) ?_
 refine yN ?_
 dsimp only [St.put]
 refine K28 _ ?_
 refine ar rfl (fun hc => ?_) (fun hc => ?_)
 ·replace hc := of_decide_eq_true hc
  obtain ⟨x, hx⟩ : ∃ x, p.pages[j]? = some x := dj (by omega)
  refine ax ?_
  refine K27 _ ?_
  refine yS fun _ K29 => ?_
  refine bh ?_
  refine yS fun _ K30 => ?_
  refine yR ?_
  refine yF rfl rfl rfl rfl ?_
  refine yL rfl rfl rfl ?_
  refine yM rfl rfl ?_
  refine aa rfl (bu rfl rfl rfl rfl (bp (by assumption)) (Enc.len _)) ?_
  refine yE rfl rfl rfl ?_
  try dsimp only [St.put]
  refine ae rfl (dm rfl ?_)
  try dsimp only [St.put]
  refine ae rfl (cp rfl rfl rfl zG rfl rfl (by rfl) ?_)
  refine yN ?_
  dsimp only [St.put]
  refine K30 _ ?_
  refine fw (i := 8) rfl zG zC ?_
  dsimp only
  refine yS fun _ K31 => ?_
  refine ck 9 ?_
  refine zQ ?_
  refine ku (X := Bool) (fun d => lx p (gk p.pages j) x = !d) (fun d => [(120, .v (.bool d))]) (fun d G' => G') rfl ?_ (fun _ _ _ _ h => .inl h) ?_ ?_
  ·rintro d hI
   exact zL
  ·refine qu [(0, none), (1, none), (2, none), (3, none), (4, none), (5, none), (6, none), (7, none), (8, none), (9, none), (10, none), (11, none), (12, none), (13, none), (14, none), (15, none)] (fun _ => false) (fun i => [0, 2, 3, 4, 5, 7, 9, 10, 11, 12, 14].contains i) 23 (rl [16, 23]) (by kernel_rfl) (by kernel_rfl) ?_
   refine af rfl rfl rfl rfl (bx rfl rfl rfl) ?_
   try dsimp only [St.put]
   refine aw rfl rfl rfl rfl (bn rfl rfl) ?_
   refine xM rfl rfl rfl rfl rfl ?_
   refine af rfl rfl rfl rfl (pd rfl rfl rfl) ?_
   refine i4 (fun hs => ?_) (fun hs => ?_)
   ·have z1 : x.fr ≤ gk p.pages j := of_decide_eq_true hs
    refine xM rfl rfl rfl rfl rfl ?_
    refine ai rfl rfl rfl ?_
    refine ai rfl rfl rfl ?_
    refine ai rfl rfl rfl ?_
    refine ai rfl rfl rfl ?_
    refine ai rfl rfl rfl ?_
    refine af rfl rfl rfl rfl (bk rfl rfl (by constructor)) ?_
    refine xM rfl rfl rfl rfl rfl ?_
    refine ai rfl rfl rfl ?_
    refine ai rfl rfl rfl ?_
    refine ai rfl rfl rfl ?_
    refine ai rfl rfl rfl ?_
    refine bz ?_
    refine di [16] (by kernel_rfl) (by simp) ?_
    refine dh ?_ ?_
    ·refine fg rfl rfl rfl ?_
     refine dx [(17, none), (18, none), (19, none), (20, none), (21, none), (22, none), (23, none), (24, none), (25, none)] (fun i => [17, 18, 19, 20, 22, 24, 25].contains i) 13 (rl [26, 13]) (by kernel_rfl) ?_
     refine ai rfl rfl rfl ?_
     refine af rfl rfl rfl rfl (bk rfl rfl (by constructor)) ?_
     refine xM rfl rfl rfl rfl rfl ?_
     refine ai rfl rfl rfl ?_
     refine ai rfl rfl rfl ?_
     refine ai rfl rfl rfl ?_
     refine ai rfl rfl rfl ?_
     refine ai rfl rfl rfl ?_
     refine ai rfl rfl rfl ?_
     refine bz ?_
     refine di [26] (by kernel_rfl) (by simp) ?_
     refine dh ?_ ?_
     ·refine fg rfl rfl rfl ?_
      refine dx [(27, none), (28, none), (29, none), (30, none), (31, none), (32, none), (33, none), (34, none), (35, none)] (fun i => [27, 28, 29, 30, 32, 34, 35].contains i) 3 (rl [36, 3]) (by kernel_rfl) ?_
      refine ai rfl rfl rfl ?_
      refine af rfl rfl rfl rfl (bk rfl rfl (by constructor)) ?_
      refine xM rfl rfl rfl rfl rfl ?_
      refine ai rfl rfl rfl ?_
      refine ai rfl rfl rfl ?_
      refine ai rfl rfl rfl ?_
      refine ai rfl rfl rfl ?_
      refine ai rfl rfl rfl ?_
      refine ai rfl rfl rfl ?_
      refine bz ?_
      refine di [36] (by kernel_rfl) (by simp) ?_
      refine dh ?_ ?_
      ·refine fg rfl rfl rfl ?_
       refine dx [(37, none), (38, none)] (fun i => [37, 38].contains i) 0 (rl [39]) (by kernel_rfl) ?_
       refine ai rfl rfl rfl ?_
       refine af rfl rfl rfl rfl (bk rfl rfl (by constructor)) ?_
       refine bz ?_
       dsimp only [St.put]
       refine gz (by kernel_rfl) ?_
       refine ⟨_, ?_, ⟨⟨rfl, rfl⟩, zF, zB, zN, zX⟩⟩
       simp_all [lx]
       try (intro h0; omega)
      exact dg
     exact dg
    exact dg
   have z1 : ¬ x.fr ≤ gk p.pages j := of_decide_eq_false hs
   refine xM rfl rfl rfl rfl rfl ?_
   refine af rfl rfl rfl rfl (bx rfl rfl rfl) ?_
   try dsimp only [St.put]
   refine aw rfl rfl rfl rfl (bn rfl rfl) ?_
   refine af rfl rfl rfl rfl (bx rfl rfl rfl) ?_
   try dsimp only [St.put]
   refine aw rfl rfl rfl rfl (bn rfl rfl) ?_
   refine af rfl rfl rfl rfl (ci rfl rfl rfl) ?_
   refine i4 (fun hs => ?_) (fun hs => ?_)
   ·have z2 : x.to < x.fr := of_decide_eq_true hs
    refine af rfl rfl rfl rfl (cg rfl rfl (by constructor)) ?_
    refine xM rfl rfl rfl rfl rfl ?_
    refine ai rfl rfl rfl ?_
    refine ai rfl rfl rfl ?_
    refine ai rfl rfl rfl ?_
    refine ai rfl rfl rfl ?_
    refine bz ?_
    refine di [16] (by kernel_rfl) (by simp) ?_
    refine dh ?_ ?_
    ·refine fg rfl rfl rfl ?_
     refine dx [(17, none), (18, none), (19, none), (20, none), (21, none), (22, none), (23, none), (24, none), (25, none)] (fun i => [17, 18, 19, 20, 22, 24, 25].contains i) 13 (rl [26, 13]) (by kernel_rfl) ?_
     refine ai rfl rfl rfl ?_
     refine af rfl rfl rfl rfl (bk rfl rfl (by constructor)) ?_
     refine xM rfl rfl rfl rfl rfl ?_
     refine ai rfl rfl rfl ?_
     refine ai rfl rfl rfl ?_
     refine ai rfl rfl rfl ?_
     refine ai rfl rfl rfl ?_
     refine ai rfl rfl rfl ?_
     refine ai rfl rfl rfl ?_
     refine bz ?_
     refine di [26] (by kernel_rfl) (by simp) ?_
     refine dh ?_ ?_
     ·refine fg rfl rfl rfl ?_
      refine dx [(27, none), (28, none), (29, none), (30, none), (31, none), (32, none), (33, none), (34, none), (35, none)] (fun i => [27, 28, 29, 30, 32, 34, 35].contains i) 3 (rl [36, 3]) (by kernel_rfl) ?_
      refine ai rfl rfl rfl ?_
      refine af rfl rfl rfl rfl (bk rfl rfl (by constructor)) ?_
      refine xM rfl rfl rfl rfl rfl ?_
      refine ai rfl rfl rfl ?_
      refine ai rfl rfl rfl ?_
      refine ai rfl rfl rfl ?_
      refine ai rfl rfl rfl ?_
      refine ai rfl rfl rfl ?_
      refine ai rfl rfl rfl ?_
      refine bz ?_
      refine di [36] (by kernel_rfl) (by simp) ?_
      refine dh ?_ ?_
      ·refine fg rfl rfl rfl ?_
       refine dx [(37, none), (38, none)] (fun i => [37, 38].contains i) 0 (rl [39]) (by kernel_rfl) ?_
       refine ai rfl rfl rfl ?_
       refine af rfl rfl rfl rfl (bk rfl rfl (by constructor)) ?_
       refine bz ?_
       dsimp only [St.put]
       refine gz (by kernel_rfl) ?_
       refine ⟨_, ?_, ⟨⟨rfl, rfl⟩, zF, zB, zN, zX⟩⟩
       simp_all [lx]
       try (intro h0; omega)
      exact dg
     exact dg
    exact dg
   have z2 : ¬ x.to < x.fr := of_decide_eq_false hs
   refine af rfl rfl rfl rfl (cg rfl rfl (by constructor)) ?_
   refine xM rfl rfl rfl rfl rfl ?_
   refine af rfl rfl rfl rfl (bx rfl rfl rfl) ?_
   try dsimp only [St.put]
   refine aw rfl rfl rfl rfl (bn rfl rfl) ?_
   refine af rfl rfl rfl rfl (bx rfl rfl rfl) ?_
   try dsimp only [St.put]
   refine aw rfl rfl rfl rfl (c := ir p.text) (jj (cs := cells p) rfl rfl (show 1 ≤ 4 by decide)) ?_
   refine bz ?_
   refine di [16] (by kernel_rfl) (by simp) ?_
   refine dh ?_ ?_
   ·try dsimp only [St.put]
    refine ii rfl rfl rfl (ay rfl rfl rfl (uhw p.text ht) ?_)
    refine dx [(17, none), (18, none), (19, none), (20, none), (21, none), (22, none), (23, none), (24, none), (25, none)] (fun i => [17, 18, 19, 20, 22, 24, 25].contains i) 13 (rl [26, 13]) (by kernel_rfl) ?_
    refine af rfl rfl rfl rfl (lp rfl rfl rfl) ?_
    refine i4 (fun hs => ?_) (fun hs => ?_)
    ·have z3 : (lv p.text : Int) ≤ x.to := of_decide_eq_true hs
     refine af rfl rfl rfl rfl (cg rfl rfl (by constructor)) ?_
     refine xM rfl rfl rfl rfl rfl ?_
     refine ai rfl rfl rfl ?_
     refine ai rfl rfl rfl ?_
     refine ai rfl rfl rfl ?_
     refine ai rfl rfl rfl ?_
     refine ai rfl rfl rfl ?_
     refine ai rfl rfl rfl ?_
     refine bz ?_
     refine di [26] (by kernel_rfl) (by simp) ?_
     refine dh ?_ ?_
     ·refine fg rfl rfl rfl ?_
      refine dx [(27, none), (28, none), (29, none), (30, none), (31, none), (32, none), (33, none), (34, none), (35, none)] (fun i => [27, 28, 29, 30, 32, 34, 35].contains i) 3 (rl [36, 3]) (by kernel_rfl) ?_
      refine ai rfl rfl rfl ?_
      refine af rfl rfl rfl rfl (bk rfl rfl (by constructor)) ?_
      refine xM rfl rfl rfl rfl rfl ?_
      refine ai rfl rfl rfl ?_
      refine ai rfl rfl rfl ?_
      refine ai rfl rfl rfl ?_
      refine ai rfl rfl rfl ?_
      refine ai rfl rfl rfl ?_
      refine ai rfl rfl rfl ?_
      refine bz ?_
      refine di [36] (by kernel_rfl) (by simp) ?_
      refine dh ?_ ?_
      ·refine fg rfl rfl rfl ?_
       refine dx [(37, none), (38, none)] (fun i => [37, 38].contains i) 0 (rl [39]) (by kernel_rfl) ?_
       refine ai rfl rfl rfl ?_
       refine af rfl rfl rfl rfl (bk rfl rfl (by constructor)) ?_
       refine bz ?_
       dsimp only [St.put]
       refine gz (by kernel_rfl) ?_
       refine ⟨_, ?_, ⟨⟨rfl, rfl⟩, zF, zB, zN, zX⟩⟩
       simp_all [lx]
       try (intro h0; omega)
      exact dg
     exact dg
    have z3 : ¬ (lv p.text : Int) ≤ x.to := of_decide_eq_false hs
    refine af rfl rfl rfl rfl (cg rfl rfl (by constructor)) ?_
    refine xM rfl rfl rfl rfl rfl ?_
    refine af rfl rfl rfl rfl (bx rfl rfl rfl) ?_
    try dsimp only [St.put]
    refine aw rfl rfl rfl rfl (bn rfl rfl) ?_
    refine af rfl rfl rfl rfl (bx rfl rfl rfl) ?_
    try dsimp only [St.put]
    refine aw rfl rfl rfl rfl (bn rfl rfl) ?_
    refine af rfl rfl rfl rfl (bf rfl rfl (List.length_map _)) ?_
    refine af rfl rfl rfl rfl (gq rfl rfl rfl (by omega)) ?_
    refine bz ?_
    refine di [26] (by kernel_rfl) (by simp) ?_
    refine dh ?_ ?_
    ·try dsimp only [St.put]
     refine ii rfl rfl rfl (ay rfl rfl rfl (qe _ _ _) ?_)
     refine dx [(27, none), (28, none), (29, none), (30, none), (31, none), (32, none), (33, none), (34, none), (35, none)] (fun i => [27, 28, 29, 30, 32, 34, 35].contains i) 3 (rl [36, 3]) (by kernel_rfl) ?_
     refine af rfl rfl rfl rfl (dp rfl rfl) ?_
     refine i4 (fun hs => ?_) (fun hs => ?_)
     ·have z4 : inB x.fst (-1) ((p.firsts.length : Int) - 1) = false := by simpa using hs
      refine af rfl rfl rfl rfl (cg rfl rfl (by constructor)) ?_
      refine xM rfl rfl rfl rfl rfl ?_
      refine ai rfl rfl rfl ?_
      refine ai rfl rfl rfl ?_
      refine ai rfl rfl rfl ?_
      refine ai rfl rfl rfl ?_
      refine ai rfl rfl rfl ?_
      refine ai rfl rfl rfl ?_
      refine bz ?_
      refine di [36] (by kernel_rfl) (by simp) ?_
      refine dh ?_ ?_
      ·refine fg rfl rfl rfl ?_
       refine dx [(37, none), (38, none)] (fun i => [37, 38].contains i) 0 (rl [39]) (by kernel_rfl) ?_
       refine ai rfl rfl rfl ?_
       refine af rfl rfl rfl rfl (bk rfl rfl (by constructor)) ?_
       refine bz ?_
       dsimp only [St.put]
       refine gz (by kernel_rfl) ?_
       refine ⟨_, ?_, ⟨⟨rfl, rfl⟩, zF, zB, zN, zX⟩⟩
       simp_all [lx]
       try (intro h0; omega)
      exact dg
     have z4 : inB x.fst (-1) ((p.firsts.length : Int) - 1) = true := by simpa using hs
     refine af rfl rfl rfl rfl (cg rfl rfl (by constructor)) ?_
     refine xM rfl rfl rfl rfl rfl ?_
     refine af rfl rfl rfl rfl (bx rfl rfl rfl) ?_
     try dsimp only [St.put]
     refine aw rfl rfl rfl rfl (bn rfl rfl) ?_
     refine af rfl rfl rfl rfl (bx rfl rfl rfl) ?_
     try dsimp only [St.put]
     refine aw rfl rfl rfl rfl (bn rfl rfl) ?_
     refine af rfl rfl rfl rfl (bf rfl rfl (List.length_map _)) ?_
     refine af rfl rfl rfl rfl (gq rfl rfl rfl (by omega)) ?_
     refine bz ?_
     refine di [36] (by kernel_rfl) (by simp) ?_
     refine dh ?_ ?_
     ·try dsimp only [St.put]
      refine ii rfl rfl rfl (ay rfl rfl rfl (qe _ _ _) ?_)
      refine dx [(37, none), (38, none)] (fun i => [37, 38].contains i) 0 (rl [39]) (by kernel_rfl) ?_
      refine af rfl rfl rfl rfl (dp rfl rfl) ?_
      refine i4 (fun hs => ?_) (fun hs => ?_)
      ·have z5 : inB x.snd (-1) ((p.seconds.length : Int) - 1) = false := by simpa using hs
       refine af rfl rfl rfl rfl (cg rfl rfl (by constructor)) ?_
       refine bz ?_
       dsimp only [St.put]
       refine gz (by kernel_rfl) ?_
       refine ⟨_, ?_, ⟨⟨rfl, rfl⟩, zF, zB, zN, zX⟩⟩
       simp_all [lx]
       try (intro h0; omega)
      have z5 : inB x.snd (-1) ((p.seconds.length : Int) - 1) = true := by simpa using hs
      refine af rfl rfl rfl rfl (cg rfl rfl (by constructor)) ?_
      refine bz ?_
      dsimp only [St.put]
      refine gz (by kernel_rfl) ?_
      refine ⟨_, ?_, ⟨⟨rfl, rfl⟩, zF, zB, zN, zX⟩⟩
      simp_all [lx]
      try (intro h0; omega)
     exact dg
    exact dg
   exact dg
  rintro d hst
  dsimp only at hst ⊢
  refine ar rfl (fun hc => ?_) (fun hc => ?_)
  ·have hhd : lx p (gk p.pages j) x = false := by rw [hst, hc]; rfl
   refine yS fun _ K33 => ?_
   refine yR ?_
   refine yA rfl rfl ?_
   refine yN ?_
   dsimp only [St.put]
   refine K33 _ ?_
   refine aq ?_
   refine ba rfl (by constructor) zN zS ?_
   exact vb (un hx (by rw [uo, hhd]; rfl)).symm
  have hhd : lx p (gk p.pages j) x = true := by rw [hst, hc]; rfl
  refine ax ?_
  refine K31 _ ?_
  refine yS fun _ K34 => ?_
  refine yS fun _ K35 => ?_
  refine yR ?_
  refine yF rfl rfl rfl rfl ?_
  try dsimp only [St.put]
  refine bq rfl (c := ir p.text) (jj (cs := cells p) rfl rfl (show 1 ≤ 4 by decide)) ?_
  refine yE rfl rfl rfl ?_
  refine yF rfl rfl rfl rfl ?_
  refine yL rfl rfl rfl ?_
  refine yF rfl rfl rfl rfl ?_
  refine yL rfl rfl rfl ?_
  try dsimp only [St.put]
  refine ae rfl (ay rfl rfl rfl (uau p.text x x.fst x.found ht) ?_)
  refine aa rfl (dp rfl rfl) ?_
  refine ef (fun hs => ?_) (fun hs => ?_)
  ·have hf1 : gi p.text x x.fst x.found = false := by simpa using hs
   refine yM rfl rfl ?_
   refine yK rfl ?_
   refine yK rfl ?_
   refine yK rfl ?_
   refine yK rfl ?_
   refine yK rfl ?_
   refine yK rfl ?_
   refine yK rfl ?_
   refine yK rfl ?_
   refine yK rfl ?_
   refine aa rfl (bk rfl rfl (by constructor)) ?_
   refine yN ?_
   dsimp only [St.put]
   refine K35 _ ?_
   refine ar rfl (fun _ => ?_) (fun h => by cases h)
   refine yS fun _ K36 => ?_
   refine yR ?_
   refine yA rfl rfl ?_
   refine yN ?_
   dsimp only [St.put]
   refine K36 _ ?_
   refine aq ?_
   refine ba rfl (by constructor) zN zS ?_
   exact vb (un hx (by rw [uo, hhd, hf1]; first | rfl | (rw [hf2]; rfl))).symm
  have hf1 : gi p.text x x.fst x.found = true := by simpa using hs
  refine yM rfl rfl ?_
  refine yF rfl rfl rfl rfl ?_
  try dsimp only [St.put]
  refine bq rfl (c := ir p.text) (jj (cs := cells p) rfl rfl (show 1 ≤ 4 by decide)) ?_
  refine yE rfl rfl rfl ?_
  refine yF rfl rfl rfl rfl ?_
  refine yL rfl rfl rfl ?_
  refine yF rfl rfl rfl rfl ?_
  refine yL rfl rfl rfl ?_
  try dsimp only [St.put]
  refine ae rfl (ay rfl rfl rfl (uau p.text x x.snd x.well ht) ?_)
  refine aa rfl (dp rfl rfl) ?_
  refine ef (fun hs => ?_) (fun hs => ?_)
  ·have hf2 : gi p.text x x.snd x.well = false := by simpa using hs
   refine aa rfl (cg rfl rfl (by constructor)) ?_
   refine yN ?_
   dsimp only [St.put]
   refine K35 _ ?_
   refine ar rfl (fun _ => ?_) (fun h => by cases h)
   refine yS fun _ K37 => ?_
   refine yR ?_
   refine yA rfl rfl ?_
   refine yN ?_
   dsimp only [St.put]
   refine K37 _ ?_
   refine aq ?_
   refine ba rfl (by constructor) zN zS ?_
   exact vb (un hx (by rw [uo, hhd, hf1]; first | rfl | (rw [hf2]; rfl))).symm
  have hf2 : gi p.text x x.snd x.well = true := by simpa using hs
  refine aa rfl (cg rfl rfl (by constructor)) ?_
  refine yN ?_
  dsimp only [St.put]
  refine K35 _ ?_
  refine ar rfl (fun h => by cases h) (fun _ => ?_)
  refine ax ?_
  refine K34 _ ?_
  refine yR ?_
  refine yF rfl rfl rfl rfl ?_
  refine yL rfl rfl rfl ?_
  refine yA rfl rfl ?_
  refine yN ?_
  dsimp only [St.put]
  refine K29 _ ?_
  refine yR ?_
  refine yM rfl rfl ?_
  refine aa rfl (ca rfl rfl rfl (by omega)) ?_
  refine yA rfl rfl ?_
  refine yN ?_
  dsimp only [St.put]
  rw [← uck hx]
  exact ⟨j + 1, by omega, ⟨by omega, by rw [ua5, hK.2, xh hx, uo, hhd, hf1, hf2]; rfl⟩, ⟨⟨rfl, rfl⟩, zF, zB, zN, zX⟩⟩
 replace hc := of_decide_eq_false hc
 obtain rfl : j = p.pages.length := by omega
 refine c5 ?_
 refine K25 _ ?_
 refine yS fun _ K38 => ?_
 refine yR ?_
 refine yA rfl rfl ?_
 refine yN ?_
 dsimp only [St.put]
 refine K38 _ ?_
 refine aq ?_
 refine ba rfl (by constructor) zN zS ?_
 exact vb (by unfold ff; rw [hRB, hK.2, decide_eq_true s3]; rfl)
end Go.Proofs.YtbbdginipiljdaaDoor
namespace Go.AB
open Go Go.RowKit
open Go.AB.Enc (cells)
open Go.PB (av aj PlaceD az bd bc bi am ah cc bg ct cw)
theorem pt {p : ah} {n : Int} (h : du p n = 0) : ce p = 0 ∧ ∃ (j : Nat) (x : am), n = (j : Int) ∧ p.pages[j]? = some x ∧ ll p n = x := by
 unfold du at h
 by_cases hc : ce p = 0
 ·rw [decide_eq_true hc, cond_true] at h
  cases hb : inB n 0 ((p.pages.length : Int) - 1)
  ·rw [hb] at h; cases h
  rw [inB_true] at hb
  obtain ⟨x, hx⟩ : ∃ x, p.pages[n.toNat]? = some x := ⟨_, List.getElem?_eq_getElem (show n.toNat < p.pages.length by omega)⟩
  exact ⟨hc, n.toNat, x, by omega, hx, by unfold ll; rw [hx]; rfl⟩
 rw [decide_eq_false hc, cond_false] at h
 exact absurd h hc
end Go.AB
namespace Go.Proofs.YtbbdginipiljdaaDoor
set_option maxRecDepth 10000
open Go.RowKit Go.AB
open Go.AB.Enc (cells)
open Go.PB (av aj PlaceD az bd bc bi am ah cc bg ct cw)
theorem uhz (p : ah) : Pure Tryd.prog 17 [val p] (.v (.int .i64 (ce p))) := by
 refine co Tryd.func17 rfl (fun m => .v) fun G nx => ?_
 simp only [Tryd.ntmps17, List.length_cons, List.length_nil, Nat.reduceAdd, Nat.reduceSub]
 refine bl fun hlt => ?_
 dsimp only at hlt
 refine yS fun _ K1 => ?_
 refine yR ?_
 try dsimp only [St.put]
 refine yB rfl rfl rfl ?_
 refine yA rfl rfl ?_
 refine yN ?_
 dsimp only [St.put]
 refine K1 _ ?_
 refine yS fun _ K2 => ?_
 refine yS fun _ K3 => ?_
 refine yR ?_
 refine yF rfl rfl rfl rfl ?_
 try dsimp only [St.put]
 refine bq rfl (c := ir p.text) (jj (cs := cells p) rfl rfl (show 1 ≤ 4 by decide)) ?_
 try dsimp only [St.put]
 refine ae rfl (ay rfl rfl rfl (unp p.text) ?_)
 refine yA rfl rfl ?_
 refine yN ?_
 dsimp only [St.put]
 refine K3 _ ?_
 refine yS fun _ K4 => ?_
 refine yR ?_
 refine yM rfl rfl ?_
 refine aa rfl (fm rfl rfl rfl) ?_
 refine yN ?_
 dsimp only [St.put]
 refine K4 _ ?_
 refine ar rfl (fun hc => ?_) (fun hc => ?_)
 ·have ht : c6 p.text = false := by
   have h0 := jm hc
   unfold iq at h0
   cases h1 : c6 p.text
   ·rfl
   rw [h1] at h0; exact absurd rfl h0
  refine yS fun _ K5 => ?_
  refine yR ?_
  refine yM rfl rfl ?_
  refine yA rfl rfl ?_
  refine yN ?_
  dsimp only [St.put]
  refine K5 _ ?_
  refine aq ?_
  refine ba rfl (by constructor) zN zS ?_
  exact vi (by simp [ce, iq, ht])
 have ht : c6 p.text = true := by
  have h0 := gp hc
  unfold iq at h0
  cases h1 : c6 p.text
  ·rw [h1] at h0; cases h0
  rfl
 refine ax ?_
 refine K2 _ ?_
 refine yS fun _ K6 => ?_
 refine yS fun _ K7 => ?_
 refine yR ?_
 refine yE rfl rfl rfl ?_
 try dsimp only [St.put]
 refine ae rfl (ay rfl rfl rfl (uhx p ht) ?_)
 refine aa rfl (dp rfl rfl) ?_
 refine yN ?_
 dsimp only [St.put]
 refine K7 _ ?_
 refine ar rfl (fun hc => ?_) (fun hc => ?_)
 ·have hp : ff p = false := by simpa using hc
  refine yS fun _ K8 => ?_
  refine yR ?_
  refine yA rfl rfl ?_
  refine yN ?_
  dsimp only [St.put]
  refine K8 _ ?_
  refine aq ?_
  refine ba rfl (by constructor) zN zS ?_
  exact vi (by simp [ce, ht, hp])
 have hp : ff p = true := by simpa using hc
 refine ax ?_
 refine K6 _ ?_
 refine yS fun _ K9 => ?_
 refine yR ?_
 refine yA rfl rfl ?_
 refine yN ?_
 dsimp only [St.put]
 refine K9 _ ?_
 refine aq ?_
 refine ba rfl (by constructor) zN zS ?_
 exact vi (by simp [ce, ht, hp])
end Go.Proofs.YtbbdginipiljdaaDoor
namespace Go.Proofs.YtbbdginipiljdaaDoor
set_option maxRecDepth 10000
open Go.RowKit Go.AB
open Go.AB.Enc (cells)
open Go.PB (av aj PlaceD az bd bc bi am ah cc bg ct cw)
end Go.Proofs.YtbbdginipiljdaaDoor
namespace Go.Proofs.YtbbdginipiljdaaDoor
set_option maxRecDepth 10000
open Go.RowKit Go.AB
open Go.AB.Enc (cells)
open Go.PB (av aj PlaceD az bd bc bi am ah cc bg ct cw)
end Go.Proofs.YtbbdginipiljdaaDoor
namespace Go.Proofs.YtbbdginipiljdaaDoor
set_option maxRecDepth 10000
open Go.RowKit Go.AB
open Go.AB.Enc (cells)
open Go.PB (av aj PlaceD az bd bc bi am ah cc bg ct cw)
end Go.Proofs.YtbbdginipiljdaaDoor
namespace Go.AB
open Go Go.RowKit
open Go.AB.Enc (cells)
open Go.PB (av aj PlaceD az bd bc bi am ah cc bg)
/-! ### First and second readers change their places -/
/-! ### Errors that are missed -/
end Go.AB
namespace Go.AB
open Go Go.RowKit
open Go.AB.Enc (cells)
open Go.PB (av aj PlaceD az bd bc bi am ah cc bg ct cw)
def qj (R : Nat → Int) (c : Int) (l : List Int) : Int := l.foldl (fun n z => min n (R z.toNat)) c
def kd (R : Nat → Int) (n : Int) (l : List Int) : Nat → Int := l.foldl (fun R z => fun i => bif decide (i = z.toNat) then R z.toNat - n else R i) R
theorem ugb (R : Nat → Int) (n : Int) : kd R n [] = R := rfl
theorem ujp {R : Nat → Int} {c : Int} {l : List Int} {k : Nat} {z : Int} (h : l[k]? = some z) : qj R c (l.take (k + 1)) = min (qj R c (l.take k)) (R z.toNat) := by
 unfold qj; rw [List.take_add_one, h, Option.toList_some, List.foldl_append]; rfl
theorem uga {R : Nat → Int} {n : Int} {l : List Int} {k : Nat} {z : Int} (h : l[k]? = some z) : kd R n (l.take (k + 1)) = fun i => bif decide (i = z.toNat) then kd R n (l.take k) z.toNat - n else kd R n (l.take k) i := by
 unfold kd; rw [List.take_add_one, h, Option.toList_some, List.foldl_append]; rfl
theorem umq {p : ah} {j : Nat} {x : am} (hx : p.pages[j]? = some x) (R C : Nat → Int) : (br p).alone R C j = qj R (C j) (cx p x) := by
 simp only [Net.alone, br, hx, cx, qj]
 by_cases q1 : 0 ≤ x.fst <;> by_cases q2 : 0 ≤ x.snd
 ·simp [q1, q2, na, show ((p.firsts.length : Int) + x.snd).toNat = p.firsts.length + x.snd.toNat by omega]
 ·simp [q1, q2, na]
 ·simp [q1, q2, na, show ((p.firsts.length : Int) + x.snd).toNat = p.firsts.length + x.snd.toNat by omega]
 ·simp [q1, q2, na]
theorem uj3 {p : ah} (h : e8 p) {j : Nat} {x : am} (hx : p.pages[j]? = some x) (R : Nat → Int) (n : Int) : (br p).lessR R j n = kd R n (cx p x) := by
 have hp := pageB_true.1 (h.page j x hx)
 have h1 := hp.fst
 have h2 := hp.snd
 funext i
 simp only [Net.lessR, Net.by, br, hx, cx, kd]
 by_cases q1 : 0 ≤ x.fst <;> by_cases q2 : 0 ≤ x.snd
 ·have e2 : ((p.firsts.length : Int) + x.snd).toNat = p.firsts.length + x.snd.toNat := by omega
  have hne : ¬ p.firsts.length + x.snd.toNat = x.fst.toNat := by omega
  rw [decide_eq_true q1, decide_eq_true q2]
  simp only [cond_true, List.cons_append, List.nil_append, List.foldl_cons, List.foldl_nil, e2, Option.some.injEq]
  by_cases z1 : i = x.fst.toNat
  ·have z2 : ¬ i = p.firsts.length + x.snd.toNat := by omega
   simp [z1.symm, z2, Ne.symm z2]
  ·by_cases z2 : i = p.firsts.length + x.snd.toNat
   ·simp [z1, Ne.symm z1, z2, hne, Ne.symm hne]
   ·simp [z1, Ne.symm z1, z2, Ne.symm z2]
 ·rw [decide_eq_true q1, decide_eq_false q2]
  simp only [cond_true, cond_false, List.append_nil, List.foldl_cons, List.foldl_nil, Option.some.injEq]
  by_cases z1 : i = x.fst.toNat
  ·simp [z1]
  ·simp [z1, Ne.symm z1]
 ·have e2 : ((p.firsts.length : Int) + x.snd).toNat = p.firsts.length + x.snd.toNat := by omega
  rw [decide_eq_false q1, decide_eq_true q2]
  simp only [cond_true, cond_false, List.nil_append, List.foldl_cons, List.foldl_nil, e2, Option.some.injEq]
  by_cases z2 : i = p.firsts.length + x.snd.toNat
  ·simp [z2]
  ·simp [z2, Ne.symm z2]
 ·rw [decide_eq_false q1, decide_eq_false q2]
  simp
theorem y6 {p : ah} {R C : Nat → Int} (hB : Bd p R C) {j : Nat} {n : Int} (h0 : 0 ≤ n) (hn : n ≤ (br p).alone R C j) : Bd p ((br p).lessR R j n) (dw C j) := by
 refine ⟨fun i => ?_, fun k => ?_, hB.nr, hB.np⟩
 ·unfold Net.lessR
  cases hb : (br p).by j i
  ·exact hB.r i
  ·have h1 := (Net.le_alone.1 hn).2 i hb
   have h2 := hB.r i
   show -1000000 ≤ R i - n ∧ R i - n ≤ 1000000
   omega
 ·unfold dw
  cases decide (k = j)
  ·exact hB.c k
  ·exact ⟨Int.le_refl _, by show (0 : Int) ≤ 1000000; omega⟩
/-- what is above has been looked at -/
def FromTop (p : ah) (R C : Nat → Int) (j : Nat) (n : Int) : Prop := (br p).pick R C j ≤ n ∧ n ≤ (br p).alone R C j ∧ ∀ m, n < m → m ≤ (br p).alone R C j → ¬ (br p).most R C ≤ m + (br p).most ((br p).lessR R j m) (dw C j)
theorem FromTop.start {p : ah} {R C : Nat → Int} {j : Nat} (h : (br p).Pick R C j ((br p).pick R C j)) : FromTop p R C j ((br p).alone R C j) := ⟨h.le, Int.le_refl _, fun m h1 h2 => by omega⟩
theorem FromTop.stop {p : ah} {R C : Nat → Int} {j : Nat} {n : Int} (h : (br p).Pick R C j ((br p).pick R C j)) (k : FromTop p R C j n) (hs : (br p).most R C ≤ n + (br p).most ((br p).lessR R j n) (dw C j)) : n = (br p).pick R C j :=
 Net.Pick.uniq ⟨Int.le_trans h.nn k.1, k.2.1, hs, k.2.2⟩ h
theorem FromTop.down {p : ah} {R C : Nat → Int} {j : Nat} {n : Int} (h : (br p).Pick R C j ((br p).pick R C j)) (k : FromTop p R C j n) (hs : ¬ (br p).most R C ≤ n + (br p).most ((br p).lessR R j n) (dw C j)) : FromTop p R C j (n - 1) := by
 refine ⟨?_, by have := k.2.1; omega, fun m h1 h2 => ?_⟩
 ·have h1 := k.1
  by_cases e : n = (br p).pick R C j
  ·subst e
   exact absurd h.ok hs
  ·omega
 ·by_cases e : m = n
  ·subst e; exact hs
  ·exact k.2.2 m (by omega) h2
end Go.AB
namespace Go.AB
open Go Go.RowKit
open Go.AB.Enc (cells)
section
variable {P : Program} {o : Oper} {st : St} {K : St → Prop}
end
end Go.AB
namespace Go.AB
open Go Go.RowKit
open Go.AB.Enc (cells)
variable {ρ : Option Nat}
section
variable {P : Program} {Q : Exit → St → Prop} {st : St}
end
section
variable {P : Program} {o : Oper} {st : St} {K : St → Prop}
end
end Go.AB
namespace Go.AB
open Go Go.RowKit
/-- What stands in a slot is known less well. -/
theorem vx {ρ : Option Nat} {P : Program} {Q : Exit → St → Prop} {st : St} {x : Code} (i : Nat) {c : C} (c' : C) (h0 : st.at i = c) (hw : Wk c c') (h : AW ρ P x Q { st with r := (i, c') :: st.r }) : AW ρ P x Q st := by
 intro E w a hs
 have hp := hs.at i
 rw [h0] at hp
 refine h E w a ⟨hs.d, hs.sz, fun j v hj => ?_, hs.g⟩
 simp only [cb]
 cases hb : Nat.beq i j
 ·exact hs.t j v hj
 ·have hij := Nat.eq_of_beq_eq_true hb
  subst hij
  have hv : a.tmps.getD i undef = v := by rw [Array.getD_eq_getD_getElem?, hj]; rfl
  rw [hv] at hp
  exact hw.2 _ _ _ hp
end Go.AB
namespace Go.AB
open Go Go.RowKit
open Go.AB.Enc (cells)
open Go.PB (av aj PlaceD az bd bc bi am ah cc bg ct cw)
theorem uk5 {l : List Int} {k : Nat} {z : Int} (h : l[k]? = some z) : (cy l)[k]? = some (.v (.int .i64 z)) := by
 have e : cy l = l.map fun y => .v (.int .i64 y) := by
  clear h
  induction l with
  | nil => rfl
  | cons y l ih =>
   have h1 : cy (y :: l) = cells y ++ cy l := by simp [cy]
   rw [h1, ih]; rfl
 rw [e, List.getElem?_map, h]; rfl
end Go.AB
namespace Go.Proofs.YtbbdginipiljdaaDoor
set_option maxRecDepth 10000
open Go.RowKit Go.AB
open Go.AB.Enc (cells)
open Go.PB (av aj PlaceD az bd bc bi am ah cc bg ct cw)
theorem xe {p : ah} (h : e8 p) {j : Nat} {x : am} (hx : p.pages[j]? = some x) {k : Nat} (hk : k < (cx p x).length) : ∃ zn : Nat, (cx p x)[k]? = some (zn : Int) ∧ zn < bw p := by
 have hp := pageB_true.1 (h.page j x hx)
 have h1 := hp.fst
 have h2 := hp.snd
 obtain ⟨z, hz⟩ : ∃ z, (cx p x)[k]? = some z := ⟨_, List.getElem?_eq_getElem hk⟩
 have hm := List.mem_of_getElem? hz
 have hb : 0 ≤ z ∧ z < (bw p : Int) := by
  unfold cx at hm
  unfold bw
  rw [List.mem_append] at hm
  rcases hm with hm | hm
  ·by_cases q : 0 ≤ x.fst
   ·rw [decide_eq_true q, cond_true, List.mem_singleton] at hm; omega
   rw [decide_eq_false q] at hm; cases hm
  by_cases q : 0 ≤ x.snd
  ·rw [decide_eq_true q, cond_true, List.mem_singleton] at hm; omega
  rw [decide_eq_false q] at hm; cases hm
 exact ⟨z.toNat, by rw [hz]; congr 1; omega, by omega⟩
end Go.Proofs.YtbbdginipiljdaaDoor
namespace Go.AB
open Go Go.RowKit
open Go.AB.Enc (cells)
open Go.PB (av aj PlaceD az bd bc bi am ah cc bg ct cw)
theorem uea (r : Int) (s i : Nat) : r * ((s / 2 ^ i % 2 : Nat) : Int) = bif s.testBit i then r else 0 := by
 have h2 : s / 2 ^ i % 2 < 2 := Nat.mod_lt _ (by omega)
 cases hb : s.testBit i
 ·have : s / 2 ^ i % 2 = 0 := by
   have : ¬ ((s / 2 ^ i % 2 : Nat) : Int) = 1 := fun e => by
    have := bit_eq.1 e
    rw [hb] at this; cases this
   omega
  rw [this]; simp
 have : s / 2 ^ i % 2 = 1 := by have := bit_eq.2 hb; omega
 rw [this]; simp
theorem umd (s i : Nat) : decide (((s / 2 ^ i % 2 : Nat) : Int) = 1) = s.testBit i := by
 rw [Bool.eq_iff_iff, decide_eq_true_eq]
 exact bit_eq
theorem uhr {p : ah} (h : e8 p) {j : Nat} {x : am} (hx : p.pages[j]? = some x) {z : Int} (hz : z ∈ cx p x) : ∃ zn : Nat, z = (zn : Int) ∧ zn ≤ 6 := by
 obtain ⟨k, hk⟩ := List.getElem?_of_mem hz
 obtain ⟨zn, h1, h2⟩ := uhq h hx (List.getElem?_eq_some_iff.1 hk).1
 rw [hk] at h1
 cases h1
 exact ⟨zn, rfl, h2⟩
theorem um {p : ah} {j : Nat} {x : am} (hx : p.pages[j]? = some x) : (p.pages.map (cx p))[j]? = some (cx p x) := by rw [List.getElem?_map, hx]; rfl
end Go.AB
namespace Go.Proofs.YtbbdginipiljdaaDoor
set_option maxRecDepth 10000
open Go.RowKit Go.AB
open Go.AB.Enc (cells)
open Go.PB (av aj PlaceD az bd bc bi am ah cc bg ct cw)
theorem uij (k s : Nat) (hk : k ≤ 64) (hs : s ≤ 1000) : Pure Tryd.prog 91 [.v (.int .i64 (k : Int)), .elem [.v (.int .i64 (s : Int))]] (.v (.bool (s.testBit k))) := by
 refine co Tryd.func91 rfl (fun m => .v) fun G nx => ?_
 simp only [Tryd.ntmps91, List.length_cons, List.length_nil, Nat.reduceAdd, Nat.reduceSub]
 refine bl fun hlt => ?_
 dsimp only at hlt
 refine yS fun _ K1 => ?_
 refine yR ?_
 refine yA rfl rfl ?_
 refine yN ?_
 dsimp only [St.put]
 refine K1 _ ?_
 refine yS fun _ K2 => ?_
 refine yR ?_
 refine yL rfl rfl rfl ?_
 refine yM rfl rfl ?_
 refine aa rfl (xv (m := s) (n := k) rfl rfl rfl hk (by show (s : Int) ≤ 9223372036854775807; omega) (by decide)) ?_
 refine aa rfl (xy (m := s / 2 ^ k) rfl rfl rfl (Nat.lt_of_le_of_lt (Nat.div_le_self _ _) (by show s < 2 ^ 64; omega)) (by decide)) ?_
 refine aa rfl (ec rfl rfl rfl) ?_
 refine yA rfl rfl ?_
 refine yN ?_
 dsimp only [St.put]
 refine K2 _ ?_
 refine aq ?_
 refine ba rfl (by constructor) zN zS ?_
 exact vb (umd s k)
set_option maxHeartbeats 1000000 in
theorem ua7 (p : ah) (R C : Nat → Int) (s : Nat) (h : e8 p) (hB : Bd p R C) (hs : s ≤ 1000) : Pure Tryd.prog 68 [val (fk p R C), .v (.int .i64 (s : Int))] (.v (.int .i64 ((br p).f R C fun i => s.testBit i))) := by
 refine co Tryd.func68 rfl (fun m => .v) fun G nx => ?_
 simp only [Tryd.ntmps68, List.length_cons, List.length_nil, Nat.reduceAdd, Nat.reduceSub]
 refine bl fun hlt => ?_
 dsimp only at hlt
 have hnr := hB.nr
 have hnp := hB.np
 have hl1 := ja (bw p) R
 have hl2 := ja p.pages.length C
 refine yS fun _ K1 => ?_
 refine yR ?_
 try dsimp only [St.put]
 refine yB rfl rfl rfl ?_
 try dsimp only [St.put]
 refine yB rfl rfl rfl ?_
 refine yA rfl rfl ?_
 refine yN ?_
 dsimp only [St.put]
 refine K1 _ ?_
 refine yS fun _ K2 => ?_
 refine yR ?_
 refine yA rfl rfl ?_
 refine yN ?_
 dsimp only [St.put]
 refine K2 _ ?_
 refine yS fun _ K3 => ?_
 refine yS fun _ K4 => ?_
 refine yR ?_
 refine yF rfl rfl rfl rfl ?_
 refine yL rfl rfl rfl ?_
 refine aa rfl (bf rfl rfl (List.length_map _)) ?_
 refine yM rfl rfl ?_
 refine yN ?_
 dsimp only [St.put]
 refine K4 _ ?_
 refine bh ?_
 refine ck 14 ?_
 refine zQ ?_
 refine dd (G) zX ?_
 dsimp only
 refine dc (X := Nat) (fun i => i ≤ bw p) (fun i => bw p - i) (fun i => [(5, .v (.int .i64 (fR R (fun i => s.testBit i) i))), (6, .any), (7, .any), (13, .v (.int .i64 (i : Int)))]) (fun i G' => G') 0 rfl ?_ ?_ (fun _ _ h => h) ?_ ?_ ?_
 ·exact Nat.zero_le _
 ·exact zF
 ·rintro i hI
  exact zL
 ·exact fun _ _ _ _ h => .inl h
 rintro i hI
 dsimp only at hI ⊢
 refine yS fun _ K5 => ?_
 refine yR ?_
 refine aa rfl (ci rfl rfl rfl) ?_
 refine yN ?_
 dsimp only [St.put]
 refine K5 _ ?_
 refine yS fun _ K6 => ?_
 refine ar rfl (fun hc => ?_) (fun hc => ?_)
 ·replace hc := of_decide_eq_true hc
  have hi : i < bw p := by
   have : (i : Int) < ((cd (bw p) R).length : Int) := hc
   rw [hl1] at this
   omega
  have hRi := mg R hi
  have hbd := yn hB (fun i => s.testBit i) i (by omega)
  have hrb := hB.r i
  have hmb : -1000000 ≤ R i * ((s / 2 ^ i % 2 : Nat) : Int) ∧ R i * ((s / 2 ^ i % 2 : Nat) : Int) ≤ 1000000 := by
   rw [uea]
   cases s.testBit i
   ·show -1000000 ≤ (0 : Int) ∧ (0 : Int) ≤ 1000000
    omega
   exact hrb
  refine ax ?_
  refine K6 _ ?_
  refine yS fun _ K7 => ?_
  refine bh ?_
  refine yS fun _ K8 => ?_
  refine yR ?_
  refine yM rfl rfl ?_
  refine aa rfl (bu rfl rfl rfl rfl (bp (by assumption)) (Enc.len _)) ?_
  refine yL rfl rfl rfl ?_
  refine yA rfl rfl ?_
  refine yA rfl rfl ?_
  refine yN ?_
  dsimp only [St.put]
  refine K8 _ ?_
  refine yR ?_
  refine yM rfl rfl ?_
  refine yM rfl rfl ?_
  refine yL rfl rfl rfl ?_
  refine yM rfl rfl ?_
  refine aa rfl (xv (m := s) (n := i) rfl rfl rfl (by show i ≤ 64; omega) (by show (s : Int) ≤ 9223372036854775807; omega) (by decide)) ?_
  refine aa rfl (xy (m := s / 2 ^ i) rfl rfl rfl (Nat.lt_of_le_of_lt (Nat.div_le_self _ _) (by show s < 2 ^ 64; omega)) (by decide)) ?_
  refine aa rfl (qi rfl rfl rfl (by omega)) ?_
  refine aa rfl (ca rfl rfl rfl (by omega)) ?_
  refine yA rfl rfl ?_
  refine yN ?_
  dsimp only [St.put]
  refine K7 _ ?_
  refine yR ?_
  refine aa rfl (ca rfl rfl rfl (by omega)) ?_
  refine yM rfl rfl ?_
  refine yN ?_
  dsimp only [St.put]
  rw [uea, ← uk9 R (fun i => s.testBit i) i]
  exact ⟨i + 1, by omega, by omega, ⟨⟨rfl, rfl⟩, zF, zB, zN, zX⟩⟩
 replace hc := of_decide_eq_false hc
 obtain rfl : i = bw p := by
  have : ¬ (i : Int) < ((cd (bw p) R).length : Int) := hc
  rw [hl1] at this
  omega
 have hfr := yn hB (fun i => s.testBit i) _ (Nat.le_refl (bw p))
 obtain ⟨FR, hFR⟩ : ∃ FR, fR R (fun i => s.testBit i) (bw p) = FR := ⟨_, rfl⟩
 rw [hFR] at hfr
 refine c5 ?_
 refine K3 _ ?_
 refine yS fun _ K9 => ?_
 refine yS fun _ K10 => ?_
 refine yR ?_
 refine yF rfl rfl rfl rfl ?_
 refine yL rfl rfl rfl ?_
 refine aa rfl (bf rfl rfl (List.length_map _)) ?_
 refine yM rfl rfl ?_
 refine yN ?_
 dsimp only [St.put]
 rw [hFR, show FR = FR + fC p C (fun i => s.testBit i) 0 by show FR = FR + 0; omega]
 refine K10 _ ?_
 refine bh ?_
 refine ck 31 ?_
 refine zQ ?_
 refine dd (G) zX ?_
 dsimp only
 refine dc (X := Nat) (fun j => j ≤ p.pages.length) (fun j => p.pages.length - j) (fun j => [(5, .v (.int .i64 (FR + fC p C (fun i => s.testBit i) j))), (8, .any), (9, .any), (30, .v (.int .i64 (j : Int)))]) (fun j G' => G') 0 rfl ?_ ?_ (fun _ _ h => h) ?_ ?_ ?_
 ·exact Nat.zero_le _
 ·exact zF
 ·rintro j hI
  exact zL
 ·exact fun _ _ _ _ h => .inl h
 rintro j hJ
 dsimp only at hJ ⊢
 refine yS fun _ K11 => ?_
 refine yR ?_
 refine aa rfl (ci rfl rfl rfl) ?_
 refine yN ?_
 dsimp only [St.put]
 refine K11 _ ?_
 refine yS fun _ K12 => ?_
 refine ar rfl (fun hc => ?_) (fun hc => ?_)
 ·replace hc := of_decide_eq_true hc
  have hj : j < p.pages.length := by
   have : (j : Int) < ((cd p.pages.length C).length : Int) := hc
   rw [hl2] at this
   omega
  obtain ⟨x, hx⟩ : ∃ x, p.pages[j]? = some x := dj hj
  have hrx := um hx
  have hCj := mg C hj
  have hcb := hB.c j
  have hfc := ude hB (fun i => s.testBit i) j (by omega)
  have hhit := ukp hx fun i => s.testBit i
  refine ax ?_
  refine K12 _ ?_
  refine yS fun _ K13 => ?_
  refine bh ?_
  refine yS fun _ K14 => ?_
  refine yR ?_
  refine yM rfl rfl ?_
  refine aa rfl (bu rfl rfl rfl rfl (bp (by assumption)) (Enc.len _)) ?_
  refine yL rfl rfl rfl ?_
  refine yA rfl rfl ?_
  refine yA rfl rfl ?_
  refine yN ?_
  dsimp only [St.put]
  refine K14 _ ?_
  refine yS fun _ K15 => ?_
  refine yR ?_
  refine yF rfl rfl rfl rfl ?_
  refine yL rfl rfl rfl ?_
  refine yM rfl rfl ?_
  refine aa rfl (bu rfl rfl rfl rfl (bp (by assumption)) (Enc.len _)) ?_
  refine yL rfl rfl rfl ?_
  refine aa rfl (pc rfl rfl) ?_
  try dsimp only [St.put]
  refine ae rfl (ay rfl rfl rfl (wa (cx p x) (fun z => s.testBit z.toNat) _ _ fun z hz => by obtain ⟨zn, rfl, h6⟩ := uhr h hx hz; exact uij zn s (by omega) hs) ?_)
  refine aa rfl (dp rfl rfl) ?_
  refine yN ?_
  dsimp only [St.put]
  refine K15 _ ?_
  refine ar rfl (fun hc => ?_) (fun hc => ?_)
  ·have hhn : (br p).hit (fun i => s.testBit i) j = false := by rw [hhit]; simpa using hc
   refine yR ?_
   refine yM rfl rfl ?_
   refine yM rfl rfl ?_
   refine aa rfl (ca rfl rfl rfl (by omega)) ?_
   refine yA rfl rfl ?_
   refine yN ?_
   dsimp only [St.put]
   refine K13 _ ?_
   refine yR ?_
   refine aa rfl (ca rfl rfl rfl (by omega)) ?_
   refine yM rfl rfl ?_
   refine yN ?_
   dsimp only [St.put]
   have e := udd p C (fun i => s.testBit i) j
   first
   | (have z : (br p).hit (fun i => s.testBit i) j = true := hhy
      rw [z, cond_true, Int.add_zero] at e
      rw [← e]
      exact ⟨j + 1, by omega, by omega, ⟨⟨rfl, rfl⟩, zF, zB, zN, zX⟩⟩)
   | (have z : (br p).hit (fun i => s.testBit i) j = false := hhn
      rw [z, cond_false] at e
      rw [Int.add_assoc, ← e]
      exact ⟨j + 1, by omega, by omega, ⟨⟨rfl, rfl⟩, zF, zB, zN, zX⟩⟩)
  have hhy : (br p).hit (fun i => s.testBit i) j = true := by rw [hhit]; simpa using hc
  refine ax ?_
  refine K13 _ ?_
  refine yR ?_
  refine aa rfl (ca rfl rfl rfl (by omega)) ?_
  refine yM rfl rfl ?_
  refine yN ?_
  dsimp only [St.put]
  have e := udd p C (fun i => s.testBit i) j
  first
  | (have z : (br p).hit (fun i => s.testBit i) j = true := hhy
     rw [z, cond_true, Int.add_zero] at e
     rw [← e]
     exact ⟨j + 1, by omega, by omega, ⟨⟨rfl, rfl⟩, zF, zB, zN, zX⟩⟩)
  | (have z : (br p).hit (fun i => s.testBit i) j = false := hhn
     rw [z, cond_false] at e
     rw [Int.add_assoc, ← e]
     exact ⟨j + 1, by omega, by omega, ⟨⟨rfl, rfl⟩, zF, zB, zN, zX⟩⟩)
 replace hc := of_decide_eq_false hc
 obtain rfl : j = p.pages.length := by
  have : ¬ (j : Int) < ((cd p.pages.length C).length : Int) := hc
  rw [hl2] at this
  omega
 refine c5 ?_
 refine K9 _ ?_
 refine yS fun _ K16 => ?_
 refine yR ?_
 refine yM rfl rfl ?_
 refine yA rfl rfl ?_
 refine yN ?_
 dsimp only [St.put]
 refine K16 _ ?_
 refine aq ?_
 refine ba rfl (by constructor) zN zS ?_
 exact vi (by rw [uc9, hFR])
set_option maxHeartbeats 1000000 in
theorem sb (p : ah) (R C : Nat → Int) (h : e8 p) (hB : Bd p R C) : Pure Tryd.prog 58 [val (fk p R C)] (.v (.int .i64 ((br p).most R C))) := by
 refine co Tryd.func58 rfl (fun m => .v) fun G nx => ?_
 simp only [Tryd.ntmps58, List.length_cons, List.length_nil, Nat.reduceAdd, Nat.reduceSub]
 refine bl fun hlt => ?_
 dsimp only at hlt
 have hnr := hB.nr
 have hl1 := ja (bw p) R
 have h64 : 2 ^ bw p ≤ 2 ^ 6 := Nat.pow_le_pow_right (by omega) hnr
 have hpos : 0 < 2 ^ bw p := Nat.two_pow_pos _
 obtain ⟨g, hg⟩ : ∃ g : Nat → Int, (fun s => (br p).f R C fun i => s.testBit i) = g := ⟨_, rfl⟩
 have hgs : ∀ s : Nat, (br p).f R C (fun i => s.testBit i) = g s := fun s => congrFun hg s
 have hP : ∀ s : Nat, s ≤ 1000 → Pure Tryd.prog 68 [val (fk p R C), .v (.int .i64 (s : Int))] (.v (.int .i64 (g s))) := fun s hs => by
  have := ua7 p R C s h hB hs
  rwa [hgs] at this
 have hgb : ∀ s, -6000000 ≤ g s ∧ g s ≤ 14000000 := fun s => by rw [← hgs]; exact f_bd hB _
 refine yS fun _ K1 => ?_
 refine yR ?_
 try dsimp only [St.put]
 refine yB rfl rfl rfl ?_
 refine yA rfl rfl ?_
 refine yN ?_
 dsimp only [St.put]
 refine K1 _ ?_
 refine yS fun _ K2 => ?_
 refine yR ?_
 try dsimp only [St.put]
 refine bq rfl (c := val (fk p R C)) (jj (cs := cells (fk p R C)) rfl rfl (show 3 ≤ 3 by decide)) ?_
 try dsimp only [St.put]
 refine ae rfl (ay rfl rfl rfl (hP 0 (by omega)) ?_)
 refine yA rfl rfl ?_
 refine yN ?_
 dsimp only [St.put]
 refine K2 _ ?_
 refine yS fun _ K3 => ?_
 refine yS fun _ K4 => ?_
 refine yR ?_
 refine yF rfl rfl rfl rfl ?_
 refine yL rfl rfl rfl ?_
 refine aa rfl (bf rfl rfl (List.length_map _)) ?_
 refine aa rfl (ubu (n := (cd (bw p) R).length) rfl rfl rfl (by rw [hl1]; omega)) ?_
 refine yM rfl rfl ?_
 refine yN ?_
 dsimp only [St.put]
 refine K4 _ ?_
 refine bh ?_
 refine ck 12 ?_
 refine zQ ?_
 refine dd (G) zX ?_
 dsimp only
 refine dc (X := Nat) (fun s => s ≤ 2 ^ bw p) (fun s => 2 ^ bw p - s) (fun s => [(3, .v (.int .i64 (lf g s))), (4, .any), (11, .v (.int .i64 (s : Int)))]) (fun s G' => G') 0 rfl ?_ ?_ (fun _ _ h => h) ?_ ?_ ?_
 ·exact Nat.zero_le _
 ·exact zF
 ·rintro s hI
  exact zL
 ·exact fun _ _ _ _ h => .inl h
 rintro s hI
 dsimp only at hI ⊢
 refine yS fun _ K5 => ?_
 refine yR ?_
 refine aa rfl (ci rfl rfl rfl) ?_
 refine yN ?_
 dsimp only [St.put]
 refine K5 _ ?_
 refine yS fun _ K6 => ?_
 refine ar rfl (fun hc => ?_) (fun hc => ?_)
 ·replace hc := of_decide_eq_true hc
  have hlt : s < 2 ^ bw p := by
   have : (s : Int) < ((2 ^ (cd (bw p) R).length : Nat) : Int) := hc
   rw [hl1] at this
   omega
  have hmb := ub5 hgb s
  have hgb1 := hgb s
  refine ax ?_
  refine K6 _ ?_
  refine yS fun _ K7 => ?_
  refine bh ?_
  refine yS fun _ K8 => ?_
  refine yR ?_
  refine yM rfl rfl ?_
  refine yA rfl rfl ?_
  refine yN ?_
  dsimp only [St.put]
  refine K8 _ ?_
  refine yR ?_
  refine yM rfl rfl ?_
  try dsimp only [St.put]
  refine bq rfl (c := val (fk p R C)) (jj (cs := cells (fk p R C)) rfl rfl (show 3 ≤ 3 by decide)) ?_
  refine yM rfl rfl ?_
  try dsimp only [St.put]
  refine ae rfl (ay rfl rfl rfl (hP s (by omega)) ?_)
  refine aa rfl (uby rfl rfl rfl rfl) ?_
  refine yA rfl rfl ?_
  refine yN ?_
  dsimp only [St.put]
  refine K7 _ ?_
  refine yR ?_
  refine aa rfl (ca rfl rfl rfl (by omega)) ?_
  refine yM rfl rfl ?_
  refine yN ?_
  dsimp only [St.put]
  rw [show min (lf g s) (g s) = lf g (s + 1) from rfl]
  exact ⟨s + 1, by omega, by omega, ⟨⟨rfl, rfl⟩, zF, zB, zN, zX⟩⟩
 replace hc := of_decide_eq_false hc
 obtain rfl : s = 2 ^ bw p := by
  have : ¬ (s : Int) < ((2 ^ (cd (bw p) R).length : Nat) : Int) := hc
  rw [hl1] at this
  omega
 refine c5 ?_
 refine K3 _ ?_
 refine yS fun _ K9 => ?_
 refine yR ?_
 refine yM rfl rfl ?_
 refine yA rfl rfl ?_
 refine yN ?_
 dsimp only [St.put]
 refine K9 _ ?_
 refine aq ?_
 refine ba rfl (by constructor) zN zS ?_
 exact vi (by unfold Net.most; rw [hg]; rfl)
theorem ua8 (p : ah) (R C : Nat → Int) (j : Nat) (x : am) (h : e8 p) (hx : p.pages[j]? = some x) : Pure Tryd.prog 66 [val (fk p R C), .v (.int .i64 (j : Int))] (.v (.int .i64 ((br p).alone R C j))) := by
 refine co Tryd.func66 rfl (fun m => .v) fun G nx => ?_
 simp only [Tryd.ntmps66, List.length_cons, List.length_nil, Nat.reduceAdd, Nat.reduceSub]
 refine bl fun hlt => ?_
 dsimp only at hlt
 have hjl := (List.getElem?_eq_some_iff.1 hx).1
 have hCj := mg C hjl
 have hrx := um hx
 have hn1 := h.nf
 have hn2 := h.ns
 have hnr : bw p = p.firsts.length + p.seconds.length := rfl
 have hrl := xf p x
 refine yS fun _ K1 => ?_
 refine yR ?_
 try dsimp only [St.put]
 refine yB rfl rfl rfl ?_
 refine yA rfl rfl ?_
 refine yN ?_
 dsimp only [St.put]
 refine K1 _ ?_
 refine yS fun _ K2 => ?_
 refine yR ?_
 refine yF rfl rfl rfl rfl ?_
 refine yL rfl rfl rfl ?_
 refine yM rfl rfl ?_
 refine aa rfl (bu rfl rfl rfl rfl (bp (by assumption)) (Enc.len _)) ?_
 refine yL rfl rfl rfl ?_
 refine yA rfl rfl ?_
 refine yN ?_
 dsimp only [St.put]
 refine K2 _ ?_
 refine yS fun _ K3 => ?_
 refine yS fun _ K4 => ?_
 refine yR ?_
 refine yF rfl rfl rfl rfl ?_
 refine yL rfl rfl rfl ?_
 refine yM rfl rfl ?_
 refine aa rfl (bu rfl rfl rfl rfl (bp (by assumption)) (Enc.len _)) ?_
 refine yL rfl rfl rfl ?_
 refine aa rfl (bf rfl rfl (List.length_map _)) ?_
 refine yM rfl rfl ?_
 refine yN ?_
 dsimp only [St.put]
 refine K4 _ ?_
 refine bh ?_
 refine ck 20 ?_
 refine zQ ?_
 refine dd (G) zX ?_
 dsimp only
 refine dc (X := Nat) (fun k => k ≤ (cx p x).length) (fun k => (cx p x).length - k) (fun k => [(5, .v (.int .i64 (qj R (C j) ((cx p x).take k)))), (7, .any), (19, .v (.int .i64 (k : Int)))]) (fun k G' => G') 0 rfl ?_ ?_ (fun _ _ h => h) ?_ ?_ ?_
 ·exact Nat.zero_le _
 ·exact zF
 ·rintro k hI
  exact zL
 ·exact fun _ _ _ _ h => .inl h
 rintro k hI
 dsimp only at hI ⊢
 refine yS fun _ K5 => ?_
 refine yR ?_
 refine aa rfl (ci rfl rfl rfl) ?_
 refine yN ?_
 dsimp only [St.put]
 refine K5 _ ?_
 refine yS fun _ K6 => ?_
 refine ar rfl (fun hc => ?_) (fun hc => ?_)
 ·replace hc := of_decide_eq_true hc
  obtain ⟨zn, hz, hz6⟩ := xe h hx (k := k) (by omega)
  have hRz := mg R hz6
  refine ax ?_
  refine K6 _ ?_
  refine yS fun _ K7 => ?_
  refine bh ?_
  refine yS fun _ K8 => ?_
  refine yR ?_
  refine aa rfl (bu rfl rfl rfl rfl (bp (by assumption)) (Enc.len _)) ?_
  refine yL rfl rfl rfl ?_
  refine yA rfl rfl ?_
  refine yN ?_
  dsimp only [St.put]
  refine K8 _ ?_
  refine yR ?_
  refine yM rfl rfl ?_
  refine yF rfl rfl rfl rfl ?_
  refine yL rfl rfl rfl ?_
  refine yM rfl rfl ?_
  refine aa rfl (bu rfl rfl rfl rfl (bp (by assumption)) (Enc.len _)) ?_
  refine yL rfl rfl rfl ?_
  refine aa rfl (uby rfl rfl rfl rfl) ?_
  refine yA rfl rfl ?_
  refine yN ?_
  dsimp only [St.put]
  refine K7 _ ?_
  refine yR ?_
  refine aa rfl (ca rfl rfl rfl (by omega)) ?_
  refine yM rfl rfl ?_
  refine yN ?_
  dsimp only [St.put]
  have e := ujp (R := R) (c := C j) hz
  rw [Int.toNat_natCast] at e
  rw [← e]
  exact ⟨k + 1, by omega, by omega, ⟨⟨rfl, rfl⟩, zF, zB, zN, zX⟩⟩
 replace hc := of_decide_eq_false hc
 refine c5 ?_
 refine K3 _ ?_
 refine yS fun _ K9 => ?_
 refine yR ?_
 refine yM rfl rfl ?_
 refine yA rfl rfl ?_
 refine yN ?_
 dsimp only [St.put]
 refine K9 _ ?_
 refine aq ?_
 refine ba rfl (by constructor) zN zS ?_
 exact vi (by rw [gg (show (cx p x).length ≤ k by omega), umq hx])
end Go.Proofs.YtbbdginipiljdaaDoor
namespace Go.AB
open Go Go.RowKit
/-- what an operation waits for -/
def pn (o : Oper) : List Nat := (o.after.toList.filter fun e => Region.binds .any e).map (·.on)
def n5 (l : List Bool) : Nat := (l.filter fun b => !b).length
theorem xo : ∀ {l : List Bool} {i : Nat}, l[i]? = some false → n5 (l.set i true) + 1 = n5 l
 | [], i, h => by simp at h
 | b :: l, 0, h => by
  simp only [List.getElem?_cons_zero, Option.some.injEq] at h
  subst h
  simp [n5]
 | b :: l, i + 1, h => by
  simp only [List.getElem?_cons_succ] at h
  have ih := xo h
  unfold n5 at ih ⊢
  cases b
  ·simp only [List.set_cons_succ, List.filter_cons, Bool.not_false, if_true, List.length_cons]; omega
  ·simp only [List.set_cons_succ, List.filter_cons, Bool.not_true, Bool.false_eq_true, if_false]; omega
theorem ui2 {l : List Bool} (h : n5 l = 0) (i : Nat) : l[i]? ≠ some false := fun e => by
 have := xo e
 omega
theorem uhp {ol : List Oper} {l : List Bool} {i : Nat} (h : i ∈ Region.ready .any ol.toArray l.toArray) (hl : l.length = ol.length) : ∃ o, ol[i]? = some o ∧ l[i]? = some false ∧ ∀ j ∈ pn o, l[j]? = some true := by
 unfold Region.ready at h
 simp only [List.mem_filter, List.mem_range, List.size_toArray, Bool.and_eq_true, Bool.not_eq_true'] at h
 obtain ⟨h1, h2, h3⟩ := h
 obtain ⟨o, ho⟩ : ∃ o, ol[i]? = some o := ⟨_, List.getElem?_eq_getElem h1⟩
 refine ⟨o, ho, ?_, fun j hj => ?_⟩
 ·have e := List.getElem?_eq_getElem (l := l) (i := i) (by omega)
  rw [Array.getD_eq_getD_getElem?, List.getElem?_toArray, e] at h2
  rw [e, ← h2]; rfl
 ·rw [List.getElem?_toArray, ho] at h3
  simp only [Option.map_some, Option.getD_some] at h3
  rw [← Array.all_toList, List.all_eq_true] at h3
  unfold pn at hj
  obtain ⟨e, he, rfl⟩ := List.mem_map.1 hj
  obtain ⟨he1, he2⟩ := List.mem_filter.1 he
  have := h3 e he1
  rw [he2, Bool.not_true, Bool.false_or, Array.getD_eq_getD_getElem?, List.getElem?_toArray] at this
  cases hb : l[e.on]? with
  | none => rw [hb] at this; cases this
  | some b => rw [hb] at this; rw [show b = true from this]
section
variable {P : Program} {ol : List Oper} {K : St → Prop} {late : Nat → Bool}
/-- whether each operation waits only for earlier ones -/
def fwdB (ol : List Oper) : Bool := (List.range ol.length).all fun i => ((ol[i]?).map fun o => (pn o).all fun j => decide (j < i)).getD true
theorem uho {l : List Bool} (hf : fwdB ol = true) (hl : l.length = ol.length) (h : Region.ready .any ol.toArray l.toArray = []) : ∀ i, i < ol.length → l[i]? = some true := by
 intro i
 induction i using Nat.strongRecOn with
 | _ i ih =>
  intro hi
  obtain ⟨o, ho⟩ : ∃ o, ol[i]? = some o := ⟨_, List.getElem?_eq_getElem hi⟩
  have e := List.getElem?_eq_getElem (l := l) (i := i) (by omega)
  cases hb : l[i]'(by omega) with
  | true => rw [e, hb]
  | false =>
   exfalso
   have hm : i ∈ Region.ready .any ol.toArray l.toArray := by
    unfold Region.ready
    simp only [List.mem_filter, List.mem_range, List.size_toArray, Bool.and_eq_true, Bool.not_eq_true']
    refine ⟨hi, by rw [Array.getD_eq_getD_getElem?, List.getElem?_toArray, e, hb]; rfl, ?_⟩
    rw [List.getElem?_toArray, ho]
    simp only [Option.map_some, Option.getD_some]
    rw [← Array.all_toList, List.all_eq_true]
    intro e1 he1
    cases hq : Region.binds .any e1 with
    | false => rfl
    | true =>
     rw [Bool.not_true, Bool.false_or, Array.getD_eq_getD_getElem?, List.getElem?_toArray]
     have hj : e1.on ∈ pn o := List.mem_map.2 ⟨e1, List.mem_filter.2 ⟨he1, hq⟩, rfl⟩
     have h1 := List.all_eq_true.1 hf i (List.mem_range.2 hi)
     rw [ho] at h1
     simp only [Option.map_some, Option.getD_some, List.all_eq_true] at h1
     have hlt := of_decide_eq_true (h1 _ hj)
     rw [ih _ hlt (by omega)]; rfl
   rw [h] at hm
   cases hm
end
end Go.AB
namespace Go.AB
open Go Go.RowKit
variable {ρ : Option Nat}
section
variable {P : Program} {ops : Array Oper} {Q : Exit → Act → World → Prop} {S : World → Prop} {late : Nat → Bool}
/-- Values alone: whatever has come up. -/
theorem ufa {S2 : World → Prop} (fin : Act → World → Prop) (fuel : Nat) (hs : Region.noSelect ops = true) (hQ : ∀ (o : Option Tmp) (v : Value) c a w, Q (.panic c) (a.put o v) w → Q (.panic c) a w) :
  ∀ (π : List (Nat × Option Nat)) (listed : Array Bool) (a : Act) (w : World), Closed .any ops listed → l7 ops late (fun _ => true) π listed = true →
   (∀ a, fin a w → ia P .any ops Q S late fuel (ko π listed) a w) → fy P ops (i1 fin) S2 late (fun _ => false) (fun _ => true) π a w → ia P .any ops Q S late (fu π + fuel) listed a w := by
 intro π
 induction π with
 | nil =>
  intro listed a w _ _ hf h
  have := hf a h
  simpa [fu, ko] using this
 | cons p rest ih =>
  obtain ⟨i, m⟩ := p
  intro listed a w hcl hc hf h
  cases m with
  | some j => simp [l7] at hc
  | none =>
   simp only [l7, Bool.and_eq_true] at hc
   obtain ⟨⟨⟨⟨hready, hfree⟩, hsome⟩, hlate⟩, hc2⟩ := hc
   simp only [fy, Bool.false_eq_true, if_false] at h
   cases ho : ops[i]? with
   | none => rw [ho] at hsome; cases hsome
   | some o =>
    rw [ho] at h
    obtain ⟨v, hy, hrest⟩ := h
    have hi : i ∈ Region.ready .any ops listed := by simpa using hready
    have hrec := ih _ _ _ (hcl.set hi) hc2 hf hrest
    have hp : fu ((i, none) :: rest) + fuel = fu rest + fuel + 1 := by simp only [fu]; omega
    rw [hp]
    simp only [if_true] at hy
    exact ri (depth := ops.size) (fun _ => True) ho (Region.noSelect_spec hs) (fun c a w => hQ o.dst v c a w) (.inl fun _ => trivial) (fu rest + fuel) listed a w hcl (Region.free_spec ho hfree) hi hy trivial hrec
end
section
variable (P : Program) (ol : List Oper) (K : St → Prop) (D : List Nat) (late : Nat → Bool)
/-- What is left, in whatever order; b: something late has come up. -/
def j8 (b : Bool) (fuel : Nat) (listed : List Bool) (st : St) : Prop :=
 ∀ (E0 : Env) (w0 : World) (Q : Act → World → Prop), (∀ a' w' st' E', Ev E0 w0 E' w' → Sim E' w' st' a' → K st' → Q a' w') →
  ∀ E1 w1 a, Ev E0 w0 E1 w1 → Sim E1 w1 st a → (b = false → ∀ n ∈ D, E1.T n = E0.T n) → ia P .any ol.toArray (i1 Q) (Keeps E0 (· ∈ D) w0) late fuel listed.toArray a w1
def wb (b : Bool) (fuel : Nat) (listed : List Bool) (i : Nat) (st : St) : Prop :=
 ∃ o, ol[i]? = some o ∧ eg ol.toArray st o = some true ∧ ((b = false ∧ EStep P o st fun st' => mx D st st' ∧ j8 P ol K D late false fuel (listed.set i true) st') ∨ (late i = true ∧ EStep P o st (j8 P ol K D late true fuel (listed.set i true))))
def rf (b : Bool) (fuel : Nat) (listed : List Bool) (st : St) : List Nat → Prop
 | [] => True
 | i :: is => wb P ol K D late b fuel listed i st ∧ rf b fuel listed st is
end
section
variable {P : Program} {ol : List Oper} {K : St → Prop} {D : List Nat} {late : Nat → Bool} {b : Bool} {fuel : Nat} {listed : List Bool} {st : St} {i : Nat} {is : List Nat} {o : Oper} {c : C}
theorem qz : rf P ol K D late b fuel listed st [] := trivial
theorem ra (h : wb P ol K D late b fuel listed i st) (k : rf P ol K D late b fuel listed st is) : rf P ol K D late b fuel listed st (i :: is) := ⟨h, k⟩
theorem qw (hL : late i = true) (hol : ol[i]? = some o) (hg : eg ol.toArray st o = some true) {listed' : List Bool} (hl : listed.set i true = listed') (h : EStep P o st (j8 P ol K D late true fuel listed')) : wb P ol K D late b fuel listed i st :=
 ⟨o, hol, hg, .inr ⟨hL, by rw [hl]; exact h⟩⟩
theorem uex (hr : (Region.ready .any ol.toArray listed.toArray == []) = true) (h : K st) : j8 P ol K D late b fuel listed st := by
 intro E0 w0 Q hQ E1 w1 a hev hs _
 have hr' : Region.ready .any ol.toArray listed.toArray = [] := by simpa using hr
 have hq := hQ a w1 st E1 hev hs h
 cases fuel with
 | zero => exact ⟨hr', hq⟩
 | succ n => exact ⟨fun _ => hq, fun i hi => by rw [hr'] at hi; cases hi⟩
theorem px (is : List Nat) (hr : (Region.ready .any ol.toArray listed.toArray == is) = true) (hne : is ≠ []) (h : rf P ol K D late b fuel listed st is) : j8 P ol K D late b (fuel + 1) listed st := by
 intro E0 w0 Q hQ E1 w1 a hev hs hb
 have hr' : Region.ready .any ol.toArray listed.toArray = is := by simpa using hr
 refine ⟨fun e => absurd (hr'.symm.trans e) hne, fun i hi => ?_⟩
 rw [hr'] at hi
 have hi' : wb P ol K D late b fuel listed i st := by
  clear hr hr' hne
  induction is with
  | nil => cases hi
  | cons j is ih =>
   rcases List.mem_cons.1 hi with rfl | hi
   ·exact h.1
   ·exact ih h.2 hi
 obtain ⟨o, hol, hg, hcase⟩ := hi'
 have ho : ol.toArray[i]? = some o := by simpa using hol
 have hset : listed.toArray.setIfInBounds i true = (listed.set i true).toArray := by simp
 refine wpOp_step ho fun Kr hK => ?_
 rw [if_pos (km hg hs)]
 rcases hcase with ⟨rfl, h1⟩ | ⟨hL, h1⟩
 ·refine h1 E1 w1 a hs Kr _ fun a' w' st' E' q1 q2 q3 => ?_
  have hk := vf hs q1 q2 q3.1
  refine hK a' w' ⟨.inr fun hS => ⟨fun b j hj => (q1.cell b j (Nat.lt_of_lt_of_le hj (hev.L b))).trans (hS.1 b j hj), fun n hn ver wv val b ht hb' => ?_⟩, ?_⟩
  ·have := hb rfl n hn
   exact ((hk n hn).2 ver wv val b (this.trans ht) hb').trans (hS.2 n hn ver wv val b ht hb')
  ·rw [hset]
   exact q3.2 E0 w0 Q hQ E' w' a' (hev.trans q1) q2 fun e n hn => (hk n hn).1.trans (hb rfl n hn)
 ·refine h1 E1 w1 a hs Kr _ fun a' w' st' E' q1 q2 q3 => ?_
  refine hK a' w' ⟨.inl hL, ?_⟩
  rw [hset]
  exact q3 E0 w0 Q hQ E' w' a' (hev.trans q1) q2 fun e => by cases e
theorem rb {total : Nat} (π : List (Nat × Option Nat)) (fuel : Nat) (listed' : List Bool)
  (hchk : (yw ol.toArray listed.toArray && (Region.noSelect ol.toArray && (l7 ol.toArray late (fun _ => true) π listed.toArray && ((ko π listed.toArray).toList == listed' && total == fu π + fuel)))) = true)
  (h : i5 P ol.toArray (fun st' => mx D st st' ∧ j8 P ol K D late b fuel listed' st') [] late (fun _ => false) (fun _ => true) π st) : j8 P ol K D late b total listed st := by
 simp only [Bool.and_eq_true, beq_iff_eq] at hchk
 obtain ⟨h0, h1, h2, h3, h4⟩ := hchk
 subst h4
 intro E0 w0 Q hQ E1 w1 a hev hs hb
 have hend : ko π listed.toArray = listed'.toArray := by rw [← h3]
 refine ufa (S2 := Keeps E1 (· ∈ ([] : List Nat)) w1) (fun a' w' => ia P .any ol.toArray (i1 Q) (Keeps E0 (· ∈ D) w0) late fuel listed'.toArray a' w') fuel h1 (fun _ _ _ _ _ h => h) π _ a w1 (udy h0) h2 (fun a' h' => by rw [hend]; exact h') ?_
 exact h E1 w1 _ (fun a' w' st' E' q1 q2 q3 => q3.2 E0 w0 Q hQ E' w' a' (hev.trans q1) q2 fun e n hn => ((vf hs q1 q2 q3.1) n hn).1.trans (hb e n hn)) a hs
theorem uel {id : Nat} {l : List Oper} {Q : Exit → St → Prop} (π : List (Nat × Option Nat)) (late N : Nat → Bool) (fuel : Nat) (listed : List Bool) (D : List Nat) (hm : P.follows .mixedOrders = true)
  (hchk : (qh l && (Region.noSelect l.toArray && (l7 l.toArray late N π (Array.replicate l.toArray.size false) && ((ko π (Array.replicate l.toArray.size false)).toList == listed && fu π + fuel == l.toArray.size)))) = true)
  (h : i5 P l.toArray (fun st' => mx D st st' ∧ j8 P l (Q .normal) D late false fuel listed st') D late (fun _ => false) N π st) : AW ρ P (.region id l.toArray true) Q st := by
 intro E w a hs
 simp only [Bool.and_eq_true, beq_iff_eq] at hchk
 obtain ⟨h0, h1, h2, h3, h4⟩ := hchk
 have hev : Ev E w E w.drew := Ev.same ((Below.refl _ _).drew) rfl
 have hend : ko π (Array.replicate l.toArray.size false) = listed.toArray := by rw [← h3]
 have key : ia P .any l.toArray (i1 fun a' w' => mo E w Q .normal a' w') (Keeps E (· ∈ D) w.drew) late (fu π + fuel) (Array.replicate l.toArray.size false) a w.drew := by
  refine wc (fun a' w' => ia P .any l.toArray (i1 fun a' w' => mo E w Q .normal a' w') (Keeps E (· ∈ D) w.drew) late fuel listed.toArray a' w') fuel h1 (fun _ _ _ _ _ h => h) π _ a w.drew ?_ h2 (Keeps.refl _ _ _) (fun a' h' => by rw [hend]; exact h') ?_
  ·intro j o _ hj
   rw [Array.getD_eq_getD_getElem?, Array.getElem?_replicate] at hj
   split at hj <;> simp at hj
  ·exact h E w.drew _ (fun a' w' st' E' q1 q2 q3 => q3.2 E w.drew _ (fun a2 w2 st2 E2 r1 r2 r3 => ⟨st2, E2, hev.trans r1, r2, r3⟩) E' w' a' q1 q2 fun _ n hn => ((vf hs.drew q1 q2 q3.1) n hn).1) a hs.drew
 rw [h4] at key
 refine il (Q := i1 fun a' w' => mo E w Q .normal a' w') ?_ (yv hm h0 (tz _ _ _ _ key))
 intro e a' w' hq
 cases e with
 | normal => exact hq
 | _ => exact hq.elim
end
/-- Four objects that are changed. -/
theorem zu {g H : Nat → Option GObj} {a b c d : Nat} {oa ob oc od : GObj} (ha : H a = some oa) (hb : H b = some ob) (hc : H c = some oc) (hd : H d = some od) (h : ∀ n o, n ≠ a → n ≠ b → n ≠ c → n ≠ d → g n = some o → H n = some o) :
  ∀ n o, ak (ak (ak (ak g a oa) b ob) c oc) d od n = some o → H n = some o := by
 intro n o hn
 by_cases e1 : n = d
 ·subst e1; rw [m5] at hn; rw [hd]; exact hn
 ·rw [ib e1] at hn
  by_cases e2 : n = c
  ·subst e2; rw [m5] at hn; rw [hc]; exact hn
  ·rw [ib e2] at hn
   by_cases e3 : n = b
   ·subst e3; rw [m5] at hn; rw [hb]; exact hn
   ·rw [ib e3] at hn
    by_cases e4 : n = a
    ·subst e4; rw [m5] at hn; rw [ha]; exact hn
    ·rw [ib e4] at hn
     exact h n o e4 e3 e2 e1 hn
end Go.AB
namespace Go.AB
open Go Go.RowKit
section
variable {P : Program} {ol : List Oper} {K : St → Prop} {D : List Nat} {late : Nat → Bool}
theorem und (I : List Bool → St → Prop) (stop : List Bool → Bool) (hf : fwdB ol = true) (hl : ∀ l st, I l st → l.length = ol.length) (hall : ∀ l st, I l st → (∀ i, i < ol.length → l[i]? = some true) → stop l = true)
  (hs : ∀ l st i o, I l st → stop l = false → ol[i]? = some o → l[i]? = some false → (∀ j ∈ pn o, l[j]? = some true) → eg ol.toArray st o = some true ∧ EStep P o st fun st' => mx D st st' ∧ I (l.set i true) st')
  (he : ∀ l st, I l st → stop l = true → j8 P ol K D late false (n5 l) l st) : ∀ (fuel : Nat) (l : List Bool) (st : St), I l st → n5 l = fuel → j8 P ol K D late false fuel l st := by
 intro fuel
 induction fuel with
 | zero =>
  intro l st hI h0
  have hz : ∀ i, i < ol.length → l[i]? = some true := fun i hi => by
   have e := List.getElem?_eq_getElem (l := l) (i := i) (by rw [hl l st hI]; exact hi)
   cases hb : l[i]'(by rw [hl l st hI]; exact hi) with
   | true => rw [e, hb]
   | false => exact absurd (by rw [e, hb]) (ui2 h0 i)
  have := he l st hI (hall l st hI hz)
  rwa [h0] at this
 | succ fuel ih =>
  intro l st hI h0
  cases hst : stop l with
  | true =>
   have := he l st hI hst
   rwa [h0] at this
  | false =>
   cases h : Region.ready .any ol.toArray l.toArray with
   | nil => rw [hall l st hI (uho hf (hl l st hI) h)] at hst; cases hst
   | cons i is =>
    refine px (i :: is) (by rw [h]; exact beq_self_eq_true _) (by simp) ?_
    have key : ∀ js : List Nat, (∀ j ∈ js, j ∈ Region.ready .any ol.toArray l.toArray) → rf P ol K D late false fuel l st js := by
     intro js
     induction js with
     | nil => intro _; trivial
     | cons j js ihj =>
      intro hjs
      refine ⟨?_, ihj fun k hk => hjs k (List.mem_cons_of_mem _ hk)⟩
      obtain ⟨o, ho, h2, h3⟩ := uhp (hjs j (List.mem_cons_self ..)) (hl l st hI)
      have hn : n5 (l.set j true) = fuel := by have := xo h2; omega
      obtain ⟨hg, hE⟩ := hs l st j o hI hst ho h2 h3
      exact ⟨o, ho, hg, .inl ⟨rfl, hE.mono fun st' h' => ⟨h'.1, ih _ _ h'.2 hn⟩⟩⟩
    exact key (i :: is) fun j hj => by rw [h]; exact hj
/-- A state whose slots stand in another order. -/
theorem unc {b : Bool} {fuel : Nat} {listed : List Bool} {st st' : St} (hn : st.n = st'.n) (hd : st.df = st'.df) (hA : ∀ i, cb st.l st.r i = cb st'.l st'.r i) (hG : st.G = st'.G) (hx : st.nx = st'.nx) (h : j8 P ol K D late b fuel listed st') : j8 P ol K D late b fuel listed st := by
 intro E0 w0 Q hQ E1 w1 a hev hs hb
 refine h E0 w0 Q hQ E1 w1 a hev ⟨hd ▸ hs.d, hn ▸ hs.sz, fun i v hv => ?_, ?_⟩ hb
 ·have := hs.t i v hv
  rwa [hA] at this
 ·have := hs.g
  rwa [hG, hx] at this
end
theorem qb {st st' : St} {n : Nat} {o : GObj} (h1 : st.G n = some o) (h2 : st'.G n = some o) : mx [n] st st' := uaf h1 h2 rfl uae
/-- whether an operation waits for another one -/
def oo (ol : List Oper) (i j : Nat) : Bool := ((ol[i]?).map fun o => (pn o).contains j).getD false
theorem qt {ol : List Oper} {i j : Nat} {o : Oper} (h : oo ol i j = true) (ho : ol[i]? = some o) : j ∈ pn o := by
 unfold oo at h
 rw [ho] at h
 simpa using h
/-- the slots, when so much came up: builds and appends of three lists -/
def adS (A0 : Nat → C) (c8 c9 c15 c16 c22 c23 : C) (b8 b9 b15 b16 b22 b23 : Bool) (i : Nat) : C :=
 bif b8 && Nat.beq 109 i then c8 else bif b9 && Nat.beq 110 i then c9 else bif b15 && Nat.beq 116 i then c15 else bif b16 && Nat.beq 117 i then c16 else bif b22 && Nat.beq 123 i then c22 else bif b23 && Nat.beq 124 i then c23 else A0 i
def adG (G0 G1 G2 G3 : Nat → Option GObj) (b9 b16 b23 : Bool) : Nat → Option GObj := bif b23 then G3 else bif b16 then G2 else bif b9 then G1 else G0
structure AdI (A0 : Nat → C) (c8 c9 c15 c16 c22 c23 : C) (G0 G1 G2 G3 : Nat → Option GObj) (nn df nx : Nat) (b8 b9 b15 b16 b22 b23 : Bool) (st : St) : Prop where
 n : st.n = nn
 df : st.df = df
 nx : st.nx = nx
 A : ∀ i, cb st.l st.r i = adS A0 c8 c9 c15 c16 c22 c23 b8 b9 b15 b16 b22 b23 i
 G : st.G = adG G0 G1 G2 G3 b9 b16 b23
 e9 : b9 = true → b8 = true
 e16 : b16 = true → b15 = true ∧ b9 = true
 e23 : b23 = true → b22 = true ∧ b16 = true
theorem jt {a b i : Nat} (h : Nat.beq a i = true) (hab : Nat.beq a b = false) : Nat.beq b i = false := by
 have := Nat.eq_of_beq_eq_true h
 subst this
 cases e : Nat.beq b a
 ·rfl
 ·have := Nat.eq_of_beq_eq_true e
  subst this
  rw [Nat.beq_refl] at hab; cases hab
end Go.AB
namespace Go.AB
open Go Go.RowKit
section
variable {A0 : Nat → C} {c8 c9 c15 c16 c22 c23 : C} {G0 G1 G2 G3 : Nat → Option GObj} {nn df nx : Nat} {b8 b9 b15 b16 b22 b23 : Bool} {st : St}
theorem AdI.cong {x : List (Nat × C)} {g g' : Nat → Option GObj} (e : g = g') (h : AdI A0 c8 c9 c15 c16 c22 c23 G0 G1 G2 G3 nn df nx b8 b9 b15 b16 b22 b23 { st with r := x, G := g' }) : AdI A0 c8 c9 c15 c16 c22 c23 G0 G1 G2 G3 nn df nx b8 b9 b15 b16 b22 b23 { st with r := x, G := g } := by
 subst e; exact h
theorem AdI.step8 (h : AdI A0 c8 c9 c15 c16 c22 c23 G0 G1 G2 G3 nn df nx false b9 b15 b16 b22 b23 st) (k9 : b9 = false) (k16 : b16 = false) (k23 : b23 = false) : AdI A0 c8 c9 c15 c16 c22 c23 G0 G1 G2 G3 nn df nx true b9 b15 b16 b22 b23 { st with r := (109, c8) :: st.r } := by
 subst k9
 subst k16
 subst k23
 exact {
  n := h.n
  df := h.df
  nx := h.nx
  A := fun i => by
   show (bif Nat.beq 109 i then _ else cb st.l st.r i) = _
   rw [h.A i]
   cases e : Nat.beq 109 i
   ·simp only [adS, e, Bool.and_false, Bool.false_and, cond_false]
   ·rw [← Nat.eq_of_beq_eq_true e]
    cases b15 <;> cases b22 <;> rfl
  G := h.G
  e9 := fun _ => rfl
  e16 := fun e => nomatch e
  e23 := fun e => nomatch e }
theorem AdI.step9 (h : AdI A0 c8 c9 c15 c16 c22 c23 G0 G1 G2 G3 nn df nx true false b15 b16 b22 b23 st) (k16 : b16 = false) (k23 : b23 = false) : AdI A0 c8 c9 c15 c16 c22 c23 G0 G1 G2 G3 nn df nx true true b15 b16 b22 b23 { st with r := (110, c9) :: st.r, G := G1 } := by
 subst k16
 subst k23
 exact {
  n := h.n
  df := h.df
  nx := h.nx
  A := fun i => by
   show (bif Nat.beq 110 i then _ else cb st.l st.r i) = _
   rw [h.A i]
   cases e : Nat.beq 110 i
   ·simp only [adS, e, Bool.and_false, Bool.false_and, cond_false]
   ·rw [← Nat.eq_of_beq_eq_true e]
    cases b15 <;> cases b22 <;> rfl
  G := rfl
  e9 := fun _ => rfl
  e16 := fun e => nomatch e
  e23 := fun e => nomatch e }
theorem AdI.step15 (h : AdI A0 c8 c9 c15 c16 c22 c23 G0 G1 G2 G3 nn df nx b8 b9 false b16 b22 b23 st) (k16 : b16 = false) (k23 : b23 = false) : AdI A0 c8 c9 c15 c16 c22 c23 G0 G1 G2 G3 nn df nx b8 b9 true b16 b22 b23 { st with r := (116, c15) :: st.r } := by
 subst k16
 subst k23
 exact {
  n := h.n
  df := h.df
  nx := h.nx
  A := fun i => by
   show (bif Nat.beq 116 i then _ else cb st.l st.r i) = _
   rw [h.A i]
   cases e : Nat.beq 116 i
   ·simp only [adS, e, Bool.and_false, Bool.false_and, cond_false]
   ·rw [← Nat.eq_of_beq_eq_true e]
    cases b8 <;> cases b9 <;> cases b22 <;> rfl
  G := h.G
  e9 := h.e9
  e16 := fun e => nomatch e
  e23 := fun e => nomatch e }
theorem AdI.step16 (h : AdI A0 c8 c9 c15 c16 c22 c23 G0 G1 G2 G3 nn df nx true true true false b22 b23 st) (k23 : b23 = false) : AdI A0 c8 c9 c15 c16 c22 c23 G0 G1 G2 G3 nn df nx true true true true b22 b23 { st with r := (117, c16) :: st.r, G := G2 } := by
 subst k23
 exact {
  n := h.n
  df := h.df
  nx := h.nx
  A := fun i => by
   show (bif Nat.beq 117 i then _ else cb st.l st.r i) = _
   rw [h.A i]
   cases e : Nat.beq 117 i
   ·simp only [adS, e, Bool.and_false, Bool.false_and, cond_false]
   ·rw [← Nat.eq_of_beq_eq_true e]
    cases b22 <;> rfl
  G := rfl
  e9 := fun _ => rfl
  e16 := fun _ => ⟨rfl, rfl⟩
  e23 := fun e => nomatch e }
theorem AdI.step22 (h : AdI A0 c8 c9 c15 c16 c22 c23 G0 G1 G2 G3 nn df nx b8 b9 b15 b16 false b23 st) (k23 : b23 = false) : AdI A0 c8 c9 c15 c16 c22 c23 G0 G1 G2 G3 nn df nx b8 b9 b15 b16 true b23 { st with r := (123, c22) :: st.r } := by
 subst k23
 exact {
  n := h.n
  df := h.df
  nx := h.nx
  A := fun i => by
   show (bif Nat.beq 123 i then _ else cb st.l st.r i) = _
   rw [h.A i]
   cases e : Nat.beq 123 i
   ·simp only [adS, e, Bool.and_false, Bool.false_and, cond_false]
   ·rw [← Nat.eq_of_beq_eq_true e]
    cases b8 <;> cases b9 <;> cases b15 <;> cases b16 <;> rfl
  G := h.G
  e9 := h.e9
  e16 := h.e16
  e23 := fun e => nomatch e }
theorem AdI.step23 (h : AdI A0 c8 c9 c15 c16 c22 c23 G0 G1 G2 G3 nn df nx true true true true true false st)  : AdI A0 c8 c9 c15 c16 c22 c23 G0 G1 G2 G3 nn df nx true true true true true true { st with r := (124, c23) :: st.r, G := G3 } := by
 exact {
  n := h.n
  df := h.df
  nx := h.nx
  A := fun i => by
   show (bif Nat.beq 124 i then _ else cb st.l st.r i) = _
   rw [h.A i]
   cases e : Nat.beq 124 i
   ·simp only [adS, e, Bool.and_false, Bool.false_and, cond_false]
   ·rw [← Nat.eq_of_beq_eq_true e]
    rfl
  G := rfl
  e9 := fun _ => rfl
  e16 := fun _ => ⟨rfl, rfl⟩
  e23 := fun _ => ⟨rfl, rfl⟩ }
end
/-- the flags, as the list of what came up -/
def adL (b8 b9 b15 b16 b22 b23 : Bool) : List Bool := [true, true, true, true, true, true, true, true, b8, b9, true, true, true, true, true, b15, b16, true, true, true, true, true, b22, b23, false, false, false, false, false, false, false, false, false]
theorem uv {a b : Bool} (h : a = true → b = true) (hb : b = false) : a = false := by
 cases a
 ·rfl
 ·rw [h rfl] at hb; cases hb
theorem qp {ops : Array Oper} {st : St} {o : Oper} (h1 : sy o.op = false) (h2 : o.guard = none) : eg ops st o = some true := by
 unfold eg vh
 rw [h1, h2]; rfl
theorem nv {st : St} {i n : Nat} {c : C} (hn : st.n = n) (hi : Nat.blt i n = true) (h : cb st.l st.r i = c) : st.at i = c := by
 unfold St.at
 rw [hn, hi]; exact h
end Go.AB
namespace Go.Proofs.YtbbdginipiljdaaDoor
set_option maxRecDepth 10000
open Go Go.RowKit Go.AB
open Go.AB.Enc (cells)
open Go.PB (PlaceD)
set_option maxHeartbeats 1000000 in
theorem uew (ws : List Int) (al bo : List (List PlaceD)) (w : Int) (fo bt : List PlaceD) (nB a1 a2 a3 : Nat) {ob : GObj} {ol : List Oper} {K : St → Prop} {late : Nat → Bool} (st0 : St) (hlen : ol.length = 33) (hf : fwdB ol = true) (hgd : (ol.all fun o => o.guard.isNone) = true)
  (hdp : (oo ol 9 8 && oo ol 16 15 && oo ol 16 9 && oo ol 23 22 && oo ol 23 16 && (List.range 9).all fun i => oo ol (24 + i) 23) = true)
  (q8 : (ol[8]?).map (fun o => (o.op, o.dst)) = some (.buildSlice 57 1 #[(0, .tmp 108)], some 109)) (q9 : (ol[9]?).map (fun o => (o.op, o.dst)) = some (.call { callee := .builtin .append, args := #[.tmp 107, .tmp 109], argTypes := #[57, 57] }, some 110))
  (q15 : (ol[15]?).map (fun o => (o.op, o.dst)) = some (.buildSlice 52 1 #[(0, .tmp 115)], some 116)) (q16 : (ol[16]?).map (fun o => (o.op, o.dst)) = some (.call { callee := .builtin .append, args := #[.tmp 114, .tmp 116], argTypes := #[52, 52] }, some 117))
  (q22 : (ol[22]?).map (fun o => (o.op, o.dst)) = some (.buildSlice 52 1 #[(0, .tmp 122)], some 123)) (q23 : (ol[23]?).map (fun o => (o.op, o.dst)) = some (.call { callee := .builtin .append, args := #[.tmp 121, .tmp 123], argTypes := #[52, 52] }, some 124))
  (hn : st0.n = 131) (h107 : cb st0.l st0.r 107 = .list (ws.map cells) (.tip a1)) (h108 : cb st0.l st0.r 108 = .v (.int .i64 w)) (h114 : cb st0.l st0.r 114 = .list (al.map cells) (.tip a2)) (h115 : cb st0.l st0.r 115 = lst fo) (h121 : cb st0.l st0.r 121 = .list (bo.map cells) (.tip a3)) (h122 : cb st0.l st0.r 122 = lst bt)
  (hB : st0.G nB = some ob) (hG1 : st0.G a1 = some (.tip ws.length 3 1)) (hG2 : st0.G a2 = some (.tip al.length 36 1)) (hG3 : st0.G a3 = some (.tip bo.length 36 1))
  (d1 : nB ≠ a1) (d2 : nB ≠ a2) (d3 : nB ≠ a3) (d4 : a1 ≠ a2) (d5 : a1 ≠ a3) (d6 : a2 ≠ a3) (lw : ws.length ≤ 100) (la : al.length ≤ 100) (lb : bo.length ≤ 100)
  (hK : j8 Tryd.prog ol K [nB] late false 9 (adL true true true true true true) { st0 with r := (124, .list ((bo ++ [bt]).map cells) (.tip a3)) :: (123, .list [[lst bt]] .none) :: (117, .list ((al ++ [fo]).map cells) (.tip a2)) :: (116, .list [[lst fo]] .none) :: (110, .list ((ws ++ [w]).map cells) (.tip a1)) :: (109, .list [[.v (.int .i64 w)]] .none) :: st0.r, G := ak (ak (ak st0.G a1 (.tip (ws ++ [w]).length 3 1)) a2 (.tip (al ++ [fo]).length 36 1)) a3 (.tip (bo ++ [bt]).length 36 1) }) :
  j8 Tryd.prog ol K [nB] late false 15 (adL false false false false false false) st0 := by
 have hop : ∀ {i : Nat} {o : Oper} {q : Op} {d : Option Tmp}, ol[i]? = some o → (ol[i]?).map (fun o => (o.op, o.dst)) = some (q, d) → o.op = q ∧ o.dst = d := fun {i o q d} h k => by
  rw [h] at k
  simp only [Option.map_some, Option.some.injEq, Prod.mk.injEq] at k
  exact k
 simp only [Bool.and_eq_true, List.all_eq_true, List.mem_range] at hdp
 obtain ⟨⟨⟨⟨⟨p1, p2⟩, p3⟩, p4⟩, p5⟩, p6⟩ := hdp
 obtain ⟨G1, hG1'⟩ : ∃ G1, ak st0.G a1 (.tip (ws ++ [w]).length 3 1) = G1 := ⟨_, rfl⟩
 obtain ⟨G2, hG2'⟩ : ∃ G2, ak G1 a2 (.tip (al ++ [fo]).length 36 1) = G2 := ⟨_, rfl⟩
 obtain ⟨G3, hG3'⟩ : ∃ G3, ak G2 a3 (.tip (bo ++ [bt]).length 36 1) = G3 := ⟨_, rfl⟩
 rw [hG1', hG2', hG3'] at hK
 have k1 : G1 a2 = some (.tip al.length 36 1) := by rw [← hG1', ib d4.symm]; exact hG2
 have k2 : G2 a3 = some (.tip bo.length 36 1) := by rw [← hG2', ib d6.symm, ← hG1', ib d5.symm]; exact hG3
 have m1 : G1 nB = some ob := by rw [← hG1', ib d1]; exact hB
 have m2 : G2 nB = some ob := by rw [← hG2', ib d2]; exact m1
 have m3 : G3 nB = some ob := by rw [← hG3', ib d3]; exact m2
 have mB : ∀ b9 b16 b23, adG st0.G G1 G2 G3 b9 b16 b23 nB = some ob := fun b9 b16 b23 => by
  cases b23 <;> cases b16 <;> cases b9 <;> assumption
 refine und (fun l st => ∃ b8 b9 b15 b16 b22 b23, l = adL b8 b9 b15 b16 b22 b23 ∧ AdI (cb st0.l st0.r) (.list [[.v (.int .i64 w)]] .none) (.list ((ws ++ [w]).map cells) (.tip a1)) (.list [[lst fo]] .none) (.list ((al ++ [fo]).map cells) (.tip a2)) (.list [[lst bt]] .none) (.list ((bo ++ [bt]).map cells) (.tip a3)) st0.G G1 G2 G3 131 st0.df st0.nx b8 b9 b15 b16 b22 b23 st) (fun l => (l[23]?).getD false) hf ?_ ?_ ?_ ?_ 15 _ st0 ?_ rfl
 ·rintro l st ⟨b8, b9, b15, b16, b22, b23, rfl, h⟩
  rw [hlen]; rfl
 ·rintro l st ⟨b8, b9, b15, b16, b22, b23, rfl, h⟩ hall
  rw [hlen] at hall
  have := hall 23 (by omega)
  show ((adL b8 b9 b15 b16 b22 b23)[23]?).getD false = true
  rw [this]; rfl
 ·rintro l st i o ⟨b8, b9, b15, b16, b22, b23, rfl, h⟩ hst hi hoff hdeps
  have hb23 : b23 = false := hst
  subst hb23
  have hlt := (List.getElem?_eq_some_iff.1 hi).1
  rw [hlen] at hlt
  have hgo : o.guard = none := by
   have := List.all_eq_true.1 hgd o (List.mem_of_getElem? hi)
   simpa using this
  have hsB := h.G ▸ mB b9 b16 false
  have hcase : (i = 8 ∨ i = 9 ∨ i = 15 ∨ i = 16 ∨ i = 22 ∨ i = 23) ∨ 24 ≤ i ∨ i = 0 ∨ i = 1 ∨ i = 2 ∨ i = 3 ∨ i = 4 ∨ i = 5 ∨ i = 6 ∨ i = 7 ∨ i = 10 ∨ i = 11 ∨ i = 12 ∨ i = 13 ∨ i = 14 ∨ i = 17 ∨ i = 18 ∨ i = 19 ∨ i = 20 ∨ i = 21 := by omega
  rcases hcase with (rfl | rfl | rfl | rfl | rfl | rfl) | h24 | rfl | rfl | rfl | rfl | rfl | rfl | rfl | rfl | rfl | rfl | rfl | rfl | rfl | rfl | rfl | rfl | rfl | rfl
  ·obtain ⟨e1, e2⟩ := hop hi q8
   obtain rfl : b8 = false := Option.some.inj hoff
   refine ⟨qp (by rw [e1]; rfl) hgo, dl (rows := [[.v (.int .i64 w)]]) (parts := [(0, .tmp 108)]) e1 rfl ?_ (by decide) (by decide) (by simp) (by decide) ?_⟩
   ·show m7 [(0, st.at 108)] = _
    rw [nv (c := .v (.int .i64 w)) h.n rfl (by rw [h.A]; cases b9 <;> cases b15 <;> cases b16 <;> cases b22 <;> exact h108)]; rfl
   ·rw [e2]
    exact ⟨qb hsB hsB, true, b9, b15, b16, b22, false, rfl, h.step8 (uv h.e9 rfl) (uv (fun e => h.e9 (h.e16 e).2) rfl) rfl⟩
  ·obtain ⟨e1, e2⟩ := hop hi q9
   obtain rfl : b9 = false := Option.some.inj hoff
   obtain rfl : b8 = true := Option.some.inj (hdeps 8 (qt p1 hi))
   have hk16 : b16 = false := uv (fun e => (h.e16 e).2) rfl
   subst hk16
   have hG := h.G
   refine ⟨qp (by rw [e1]; rfl) hgo, kp [w] e1 (nv h.n rfl (by rw [h.A]; cases b15 <;> cases b22 <;> exact h107)) (by rw [hG]; exact hG1) rfl (nv (c := .list [[.v (.int .i64 w)]] .none) h.n rfl (by rw [h.A]; rfl)) rfl (by simp only [List.length_cons, List.length_nil]; omega) ?_ (by simp only [List.length_cons, List.length_nil]; omega)⟩
   rw [e2]
   have e3 : ak st.G a1 (.tip (ws ++ [w]).length 3 1) = G1 := by rw [hG]; exact hG1'
   refine ⟨qb hsB (by show ak st.G a1 _ nB = _; rw [ib d1]; exact hsB), true, true, b15, false, b22, false, rfl, ?_⟩
   exact (h.step9 rfl rfl).cong e3
  ·obtain ⟨e1, e2⟩ := hop hi q15
   obtain rfl : b15 = false := Option.some.inj hoff
   refine ⟨qp (by rw [e1]; rfl) hgo, dl (rows := [[lst fo]]) (parts := [(0, .tmp 115)]) e1 rfl ?_ (by decide) (by decide) (by simp) (by decide) ?_⟩
   ·show m7 [(0, st.at 115)] = _
    rw [nv (c := lst fo) h.n rfl (by rw [h.A]; cases b8 <;> cases b9 <;> cases b16 <;> cases b22 <;> exact h115)]; rfl
   ·rw [e2]
    exact ⟨qb hsB hsB, b8, b9, true, b16, b22, false, rfl, h.step15 (uv (fun e => (h.e16 e).1) rfl) rfl⟩
  ·obtain ⟨e1, e2⟩ := hop hi q16
   obtain rfl : b16 = false := Option.some.inj hoff
   obtain rfl : b15 = true := Option.some.inj (hdeps 15 (qt p2 hi))
   obtain rfl : b9 = true := Option.some.inj (hdeps 9 (qt p3 hi))
   obtain rfl : b8 = true := h.e9 rfl
   have hG := h.G
   refine ⟨qp (by rw [e1]; rfl) hgo, kp [fo] e1 (nv h.n rfl (by rw [h.A]; cases b22 <;> exact h114)) (by rw [hG]; exact k1) rfl (nv (c := .list [[lst fo]] .none) h.n rfl (by rw [h.A]; rfl)) rfl (by simp only [List.length_cons, List.length_nil]; omega) ?_ (by simp only [List.length_cons, List.length_nil]; omega)⟩
   rw [e2]
   have e3 : ak st.G a2 (.tip (al ++ [fo]).length 36 1) = G2 := by rw [hG]; exact hG2'
   refine ⟨qb hsB (by show ak st.G a2 _ nB = _; rw [ib d2]; exact hsB), true, true, true, true, b22, false, rfl, ?_⟩
   exact (h.step16 rfl).cong e3
  ·obtain ⟨e1, e2⟩ := hop hi q22
   obtain rfl : b22 = false := Option.some.inj hoff
   refine ⟨qp (by rw [e1]; rfl) hgo, dl (rows := [[lst bt]]) (parts := [(0, .tmp 122)]) e1 rfl ?_ (by decide) (by decide) (by simp) (by decide) ?_⟩
   ·show m7 [(0, st.at 122)] = _
    rw [nv (c := lst bt) h.n rfl (by rw [h.A]; cases b8 <;> cases b9 <;> cases b15 <;> cases b16 <;> exact h122)]; rfl
   ·rw [e2]
    exact ⟨qb hsB hsB, b8, b9, b15, b16, true, false, rfl, h.step22 rfl⟩
  ·obtain ⟨e1, e2⟩ := hop hi q23
   obtain rfl : b22 = true := Option.some.inj (hdeps 22 (qt p4 hi))
   obtain rfl : b16 = true := Option.some.inj (hdeps 16 (qt p5 hi))
   obtain rfl : b15 = true := (h.e16 rfl).1
   obtain rfl : b9 = true := (h.e16 rfl).2
   obtain rfl : b8 = true := h.e9 rfl
   have hG := h.G
   refine ⟨qp (by rw [e1]; rfl) hgo, kp [bt] e1 (nv h.n rfl (by rw [h.A]; exact h121)) (by rw [hG]; exact k2) rfl (nv (c := .list [[lst bt]] .none) h.n rfl (by rw [h.A]; rfl)) rfl (by simp only [List.length_cons, List.length_nil]; omega) ?_ (by simp only [List.length_cons, List.length_nil]; omega)⟩
   rw [e2]
   have e3 : ak st.G a3 (.tip (bo ++ [bt]).length 36 1) = G3 := by rw [hG]; exact hG3'
   refine ⟨qb hsB (by show ak st.G a3 _ nB = _; rw [ib d3]; exact hsB), true, true, true, true, true, true, rfl, ?_⟩
   exact (h.step23).cong e3
  ·have hm := hdeps 23 (qt (i := i) (by have := p6 (i - 24) (by omega); rwa [show 24 + (i - 24) = i by omega] at this) hi)
   cases hm
  all_goals (cases hoff)
 ·rintro l st ⟨b8, b9, b15, b16, b22, b23, rfl, h⟩ hst
  obtain rfl : b23 = true := hst
  obtain ⟨rfl, rfl⟩ := h.e23 rfl
  obtain ⟨rfl, rfl⟩ := h.e16 rfl
  obtain rfl := h.e9 rfl
  refine unc ?_ ?_ (fun i => ?_) ?_ ?_ hK
  ·exact h.n.trans hn.symm
  ·exact h.df
  rotate_left
  ·exact h.G
  ·exact h.nx
  rw [h.A i]
  unfold adS
  show (bif Nat.beq 109 i then _ else bif Nat.beq 110 i then _ else bif Nat.beq 116 i then _ else bif Nat.beq 117 i then _ else bif Nat.beq 123 i then _ else bif Nat.beq 124 i then _ else cb st0.l st0.r i) = (bif Nat.beq 124 i then _ else bif Nat.beq 123 i then _ else bif Nat.beq 117 i then _ else bif Nat.beq 116 i then _ else bif Nat.beq 110 i then _ else bif Nat.beq 109 i then _ else cb st0.l st0.r i)
  cases e1 : Nat.beq 109 i
  ·cases e2 : Nat.beq 110 i
   ·cases e3 : Nat.beq 116 i
    ·cases e4 : Nat.beq 117 i
     ·cases e5 : Nat.beq 123 i
      ·cases e6 : Nat.beq 124 i <;> rfl
      ·rw [jt e5 (b := 124) rfl]; rfl
     ·rw [jt e4 (b := 124) rfl, jt e4 (b := 123) rfl]; rfl
    ·rw [jt e3 (b := 124) rfl, jt e3 (b := 123) rfl, jt e3 (b := 117) rfl]; rfl
   ·rw [jt e2 (b := 124) rfl, jt e2 (b := 123) rfl, jt e2 (b := 117) rfl, jt e2 (b := 116) rfl]; rfl
  ·rw [jt e1 (b := 124) rfl, jt e1 (b := 123) rfl, jt e1 (b := 117) rfl, jt e1 (b := 116) rfl, jt e1 (b := 110) rfl]; rfl
 ·exact ⟨false, false, false, false, false, false, rfl, { n := hn, df := rfl, nx := rfl, A := fun _ => rfl, G := rfl, e9 := (fun e => nomatch e), e16 := (fun e => nomatch e), e23 := (fun e => nomatch e) }⟩
end Go.Proofs.YtbbdginipiljdaaDoor
namespace Go.AB
open Go Go.RowKit
open Go.AB.Enc (cells)
section
variable {P : Program} {o : Oper} {st : St} {K : St → Prop}
/-- append to a slice without room: a copy, owned. -/
theorem udt {α : Type} [Enc α] {t e : TypeId} {bytes : Nat} [AppT P t e (Enc.n α) bytes] {s x : Operand} {tok tk : Tok} {rows : List (List C)} (ys : List α) (ho : o.op = .call { callee := .builtin .append, args := #[s, x], argTypes := #[t, t] }) (hs : evC st s = .list [] tok) (htok : tok = .zero ∨ tok = .nil) (hx : evC st x = .list rows tk) (hy : rows = ys.map cells) (hne : ys ≠ []) (hn : 1 ≤ Enc.n α) (hb : ys.length * bytes ≤ 140737488355328) (hm : ys.length ≤ 9223372036854775807)
  (h : K (St.put { st with G := ak st.G st.nx (.arr 0 0 e (Enc.n α) ys.length (cy ys)), nx := st.nx + 1 } o.dst (.own st.nx 0 ys.length))) : EStep P o st K :=
 j5 fun E w a hsim => by
  subst hy
  obtain ⟨ht, i, z, hie, hz, h1, h2, h3⟩ := AppT.spec (P := P) (t := t) (e := e) (sz := Enc.n α) (bytes := bytes)
  obtain ⟨sa, cap, _, _, e1, _, _, _, _, _, _, _, z1, z2, _⟩ := (hs ▸ hsim.ev s).list_inv
  have hcap : cap = 0 := by
   rcases htok with h | h
   ·exact z2 h
   ·exact (z1 h).2
  subst hcap
  have hrl : (ys.map (cells (α := α))).length = ys.length := List.length_map _
  obtain ⟨ao, c, news, e2, hl, hnews, hr, hone, h1c⟩ := vy (hx ▸ hsim.ev x) (lu ys)
  rw [hrl] at e2 hl hnews
  have hy0 : ys.length ≠ 0 := fun e => hne (List.eq_nil_of_length_eq_zero e)
  obtain ⟨ad, rfl, hcells⟩ := hnews.resolve_left hy0
  have hl2 : news.length = ys.length * i.size := by rw [hl, h1]
  have key : ∃ nc, (Builtin.append_ #[t, t] o.type #[.slice sa 0 0, .slice (some ad) ys.length c]).run P w = .ok (.slice (some ⟨w.heap.size, 0, none⟩) ys.length nc) (w.drew.alloc (.cells (news.toArray ++ Builtin.zeroCells z.cells (nc - ys.length)) e)) ∧ ys.length ≤ nc ∧ nc ≤ maxLen := by
   refine ⟨grownCap w (0 + ys.length) 0 e, ?_, ?_, ?_⟩
   ·cases sa with
    | none =>
     have := run_append_nil (P := P) w t o.type e i z ht hie hz ad ys.length c news hl2 hcells (by omega) (by omega) (by rw [h2]; omega)
     simpa using this
    | some a0 =>
     have := run_append_grow (P := P) w t o.type e i z ht hie hz a0 0 0 [] (by simp) (by simp) ad ys.length c news hl2 hcells (by omega) (by omega) (growslice_fits (by omega) (by rw [h2]; simpa using hb))
     simpa using this
   ·have := grownCap_ge w (0 + ys.length) 0 e; omega
   ·exact grownCap_le_maxLen w (0 + ys.length) 0 e (by unfold maxLen; omega)
  obtain ⟨nc, hrun, hnc, hnm⟩ := key
  obtain ⟨ob, hob⟩ : ∃ ob, ob = Obj.cells (news.toArray ++ Builtin.zeroCells z.cells (nc - ys.length)) e := ⟨_, rfl⟩
  rw [← hob] at hrun
  have hev := Ev.laid hsim.g (o := ob) 0 (.inr rfl)
  have hg := SimG.laid hsim.g (o := ob) 0 (.inr rfl)
  have hnew : (w.drew.alloc ob).heap[w.heap.size]? = some ob := s8 w.drew ob
  have hsz : (w.drew.alloc ob).heap.size = w.heap.size + 1 := by simp
  have hold : ∀ n tt b, (E.lay w.heap.size 0).T n = some tt → blk tt.2.2 = some b → b < w.heap.size := fun n tt b h5 h6 => (hsim.g.tb n _ _ _ b h5 h6).2
  have hnx := hsim.g.nx
  have hfr : ∀ b o', blk (.slice (some ⟨w.heap.size, 0, none⟩) ys.length nc) = some b → w.heap[b]? = some o' → False := fun b o' hbk ho' => by
   simp only [blk, Option.some.injEq] at hbk
   subst hbk
   have := (Array.getElem?_eq_some_iff.1 ho').1
   omega
  have hev2 := hev.thenName (.slice (some ⟨w.heap.size, 0, none⟩) ys.length nc) hfr
  have hg2 := SimG.name hg (.slice (some ⟨w.heap.size, 0, none⟩) ys.length nc) (.arr 0 0 e (Enc.n α) ys.length (cy ys)) (fun b hbk => by
   simp only [blk, Option.some.injEq] at hbk
   subst hbk
   exact ⟨hsim.g.base, by rw [hsz]; omega, fun n tt h5 h6 => absurd (hold n tt _ h5 h6) (by omega)⟩) (by
   refine ⟨.slice (some ⟨w.heap.size, 0, none⟩) ys.length nc, news, ?_, ⟨hl, .inr ⟨w.heap.size, nc, _, rfl, hsim.g.base, hnew.trans (by rw [hob]), hnc, hnm, ?_, ?_⟩⟩, fun c hc => ?_, hr.ev hev2, fun b hbk => ?_, hn⟩
   ·simp [Env.name, Env.lay, hnx]
   ·simp only [Array.size_append, List.size_toArray, size_zeroCells, hl]
    rw [h3, ← Nat.add_mul]
    congr 1
    omega
   ·simp only [Array.toList_append]
    rw [List.take_append_of_le_length (by simp [hl]), List.take_of_length_le (by simp [hl])]
   ·obtain ⟨r, hr1, hr2⟩ := List.mem_flatten.1 hc
    exact hone r hr1 c hr2
   ·simp only [blk, Option.some.injEq] at hbk
    subst hbk
    simp [Env.name, Env.lay])
  refine ⟨.slice (some ⟨w.heap.size, 0, none⟩) ys.length nc, w.drew.alloc ob, _, _, _, .own st.nx 0 ys.length, ?_, hev2, ?_, hg2, h⟩
  ·simp only [execOp, ho, resolve, invoke, builtin, Sem.run_bind, Sem.run_pure, Result.andThen_ok, List.map_toArray, List.map_cons, List.map_nil, e1, e2]
   simp only [List.length_nil]
   rw [hrun]; rfl
  ·refine R.own (by simp [Env.name, Env.lay]; omega) hnc hnm fun ver wv val htt => ?_
   simp only [Env.name, Env.lay, hnx, if_true, Option.some.injEq, Prod.mk.injEq] at htt
   obtain ⟨rfl, rfl, rfl⟩ := htt
   exact ⟨Nat.le_refl _, fun _ => ⟨_, Nat.le_refl _, rfl⟩⟩
end
/-- A function that gives nothing back ends. -/
theorem udg {P : Program} {st : St} {fn : Func} {G : Nat → Option GObj} {nx : Nat} {e : Exit} (hf : fn.results = #[]) (he : e = .normal ∨ e = .ret) (hn : nx ≤ st.nx) (hG : ∀ n o, G n = some o → st.G n = some o) : nw P fn (.tup []) G nx e st := by
 have : m8 P fn st (.tup []) := fun E w a _ => ⟨_, results_none hf _ _ _, R.undef E w⟩
 rcases he with rfl | rfl
 ·exact ⟨this, hn, hG⟩
 ·exact ⟨this, hn, hG⟩
end Go.AB
namespace Go.AB
open Go Go.RowKit
open Go.Maps (Keyed)
section
variable {P : Program} {k t e : TypeId} {w : World} {r : Nat} {es : Array MapEntry} {clock : Nat}
end
section
variable {P : Program} {o : Oper} {st : St} {K : St → Prop} {α : Type} [KeyV α]
end
/-- Three numbers. -/
instance : KeyV Go.PB.PlaceD where
 kv x := .agg #[.int .i64 x.ch, .int .i64 x.ln, .int .i64 x.wd]
 kc x := .agg [.v (.int .i64 x.ch), .v (.int .i64 x.ln), .v (.int .i64 x.wd)]
 inv h := by
  obtain ⟨vs, rfl, h1, _⟩ := h.agg_inv
  match vs, h1 with
  | [a, b, c], h1 =>
   have e1 := (h1.2 0 _ _ rfl rfl).v_inv
   have e2 := (h1.2 1 _ _ rfl rfl).v_inv
   have e3 := (h1.2 2 _ _ rfl rfl).v_inv
   subst e1; subst e2; subst e3; rfl
  | [], h => exact absurd h.1 (by simp)
  | [_], h => exact absurd h.1 (by simp)
  | [_, _], h => exact absurd h.1 (by simp)
  | _ :: _ :: _ :: _ :: _, h => exact absurd h.1 (by simp)
 inj h := by
  rename_i x y
  obtain ⟨a, b, c⟩ := x
  obtain ⟨d, e, f⟩ := y
  simpa using h
 any {E w x v} h E' w' := by
  obtain ⟨vs, rfl, h1, _⟩ := h.agg_inv
  match vs, h1 with
  | [a, b, c], h1 =>
   have e1 := h1.2 0 _ _ rfl rfl
   have e2 := h1.2 1 _ _ rfl rfl
   have e3 := h1.2 2 _ _ rfl rfl
   cases e1 with | v e1 =>
   cases e2 with | v e2 =>
   cases e3 with | v e3 =>
   exact (Rs.cons (.v e1) (Rs.cons (.v e2) (Rs.cons (.v e3) Rs.nil))).agg (by intro c hc; simp only [List.mem_cons, List.not_mem_nil, or_false] at hc; rcases hc with rfl | rfl | rfl <;> rfl)
  | [], h => exact absurd h.1 (by simp)
  | [_], h => exact absurd h.1 (by simp)
  | [_, _], h => exact absurd h.1 (by simp)
  | _ :: _ :: _ :: _ :: _, h => exact absurd h.1 (by simp)
end Go.AB
namespace Go.AB
open Go Go.RowKit
open Go.PB (av aj PlaceD az bd bc)
def ucx (P : Program) (k u : TypeId) : Bool := match P.underlying k with
 | some (.struct fs) => (match fs.toList with
  | [a, b, c] => a.type == u && b.type == u && c.type == u && a.offset == 0 && b.offset == 1 && c.offset == 2 && fs.all (·.name != "_")
  | _ => false)
 | _ => false
theorem key3 {P : Program} {k u : TypeId} (h : ucx P k u = true) (hu : P.underlying u = some (.int .i64)) (h3 : P.cellsOf k = 3) (h1 : P.cellsOf u = 1) (hk : P.keyType k = true) (hm : ∃ m, P.types.size = m + 3) {x y z : Int} (hx : (Lit.int .i64 x).wf = true) (hy : (Lit.int .i64 y).wf = true) (hz : (Lit.int .i64 z).wf = true) : ∃ l, keyOf P k (.agg #[.int .i64 x, .int .i64 y, .int .i64 z]) = some l := by
 obtain ⟨m, hm⟩ := hm
 unfold ucx at h
 split at h
 ·rename_i fs hfs
  split at h
  ·rename_i a b c habc
   simp only [Bool.and_eq_true, beq_iff_eq] at h
   obtain ⟨⟨⟨⟨⟨⟨e1, e2⟩, e3⟩, e4⟩, e5⟩, e6⟩, e7⟩ := h
   have hf : (Value.agg #[.int .i64 x, .int .i64 y, .int .i64 z]).formed P k = true := by simp [Value.formed, hfs, h3]
   refine ⟨.string (keyBytes [.int .i64 x, .int .i64 y, .int .i64 z]), ?_⟩
   unfold keyOf
   rw [hfs]
   simp only [hk, hf, Bool.and_self, if_true]
   have hl : P.keyLits (P.types.size + 1) k (Value.agg #[.int .i64 x, .int .i64 y, .int .i64 z]).cells.toList = some [.int .i64 x, .int .i64 y, .int .i64 z] := by
    rw [hm]
    unfold Program.keyLits
    simp only [hfs, h3, h1, e1, e2, e3, e4, e5, e6, e7, habc, Value.cells]
    unfold Program.keyLits
    simp [hu, h1, e1, e2, e3, e4, e5, e6, hx, hy, hz]
   rw [hl]
   rfl
  ·cases h
 ·cases h
end Go.AB
namespace Go.Proofs.YtbbdginipiljdaaDoor
set_option maxRecDepth 10000
open Go Go.RowKit Go.AB
open Go.PB (av aj PlaceD az bd bc)
theorem uh2 : Go.Maps.Keyed Tryd.prog 54 := Go.Maps.Keyed.of_law (deep_law_laid x8 (m := 2) (by omega) (of_decide_eq_true (by kernel_rfl)) (by kernel_rfl) (by kernel_rfl))
instance : KeyT Tryd.prog 54 PlaceD where
 keyed := uh2
 has {E w x v} h := by
  obtain ⟨vs, rfl, h1, _⟩ := R.agg_inv h
  match vs, h1 with
  | [a, b, c], h1 => exact key3 (u := 3) (by kernel_rfl) wh (by kernel_rfl) (by kernel_rfl) (by kernel_rfl) ujw (u7 (ve (h1.2 0 _ _ rfl rfl))) (u7 (ve (h1.2 1 _ _ rfl rfl))) (u7 (ve (h1.2 2 _ _ rfl rfl)))
  | [], h => exact absurd h.1 (by simp)
  | [_], h => exact absurd h.1 (by simp)
  | [_, _], h => exact absurd h.1 (by simp)
  | _ :: _ :: _ :: _ :: _, h => exact absurd h.1 (by simp)
end Go.Proofs.YtbbdginipiljdaaDoor
