/-
  What the walks through the program rest on: values, states, steps, calls (PaFlow, PbData, PcWorst, PdPlain, PeSets, PfPlain, PgSides, PhApart, PiWhy, PjWhy, PsExamples, PpAdd, PlTruth, PqRest, AbTwin, AbCut, RaStd, OpenE, AbRem, AbBits, QaRef, QbRef, QcRef, RbSides, QdRef, QeRef, KxBefore, QfRef, QgRef, QhRef, QiRef, QjRef, QkRef, PmMore, QlPlain, AbZero, AbGrow, AbCutN, QmRef, RhProves, AbInv, AbMixD, AbInvD).
-/
import Derived.Lib.Hide
import Derived.Test.YtbbdginipiljdaaDoorPartB
import Derived.Shelf.SlicesE.DeleteFunc
import Derived.Deep.Slices
import Derived.Lib.SmallJoins
import Derived.Carry
import Derived.ProofKit
import Derived.OpenShut
namespace Go.AB
/-- a sum -/
def sm : Nat → (Nat → Int) → Int
 | 0, _ => 0
 | n + 1, g => sm n g + g n
theorem tq : ∀ {n : Nat} {g h : Nat → Int}, (∀ i, i < n → g i ≤ h i) → sm n g ≤ sm n h
 | 0, _, _, _ => Int.le_refl _
 | n + 1, g, h, H => by
  have h1 := tq (n := n) fun i hi => H i (by omega)
  have h2 := H n (by omega)
  simp only [sm]; omega
theorem mg : ∀ {n : Nat} {g h : Nat → Int}, (∀ i, i < n → g i = h i) → sm n g = sm n h
 | 0, _, _, _ => rfl
 | n + 1, g, h, H => by
  have h1 := mg (n := n) fun i hi => H i (by omega)
  have h2 := H n (by omega)
  simp only [sm]; omega
theorem qn : ∀ (n : Nat) (g h : Nat → Int), sm n (fun i => g i + h i) = sm n g + sm n h
 | 0, _, _ => rfl
 | n + 1, g, h => by have := qn n g h; simp only [sm]; omega
theorem tn : ∀ (n : Nat) (g h : Nat → Int), sm n (fun i => g i - h i) = sm n g - sm n h
 | 0, _, _ => rfl
 | n + 1, g, h => by have := tn n g h; simp only [sm]; omega
theorem v7 : ∀ n : Nat, sm n (fun _ => 0) = 0
 | 0 => rfl
 | n + 1 => by have := v7 n; simp only [sm]; omega
theorem uij {n : Nat} {g : Nat → Int} (H : ∀ i, i < n → 0 ≤ g i) : 0 ≤ sm n g := by
 have := tq (g := fun _ => 0) H
 rwa [v7] at this
theorem tp : ∀ {n k : Nat} (_ : k < n) (v : Int), sm n (fun i => bif decide (i = k) then v else 0) = v
 | 0, _, h, _ => absurd h (Nat.not_lt_zero _)
 | n + 1, k, h, v => by
  simp only [sm]
  by_cases e : n = k
  ·subst e
   rw [mg (h := fun _ => 0) (fun i hi => by rw [decide_eq_false (by omega)]; rfl), v7, decide_eq_true rfl]
   simp
  ·rw [tp (n := n) (by omega) v, decide_eq_false e]
   simp
/-- pages, each with a first and a second reader, or one of them, or none -/
structure Net where
 nF : Nat
 nr : Nat
 np : Nat
 fr : Nat → Option Nat
 sc : Nat → Option Nat
structure Net.Ok (N : Net) : Prop where
 le : N.nF ≤ N.nr
 fr : ∀ j i, N.fr j = some i → i < N.nF
 sc : ∀ j i, N.sc j = some i → N.nF ≤ i ∧ i < N.nr
def ob (S : Nat → Bool) : Option Nat → Bool
 | none => false
 | some i => S i
def Net.hit (N : Net) (S : Nat → Bool) (j : Nat) : Bool := ob S (N.fr j) || ob S (N.sc j)
/-- who reads a page -/
def Net.by (N : Net) (j i : Nat) : Bool := decide (N.fr j = some i) || decide (N.sc j = some i)
/-- what a set of readers proves -/
def Net.f (N : Net) (R C : Nat → Int) (S : Nat → Bool) : Int := sm N.nr (fun i => bif S i then R i else 0) + sm N.np (fun j => bif N.hit S j then 0 else C j)
section
variable {N : Net} {R C : Nat → Int}
theorem Net.Ok.by_lt (h : N.Ok) {j i : Nat} (hb : N.by j i = true) : i < N.nr := by
 simp only [Net.by, Bool.or_eq_true, decide_eq_true_eq] at hb
 rcases hb with e | e
 ·have := h.fr j i e; have := h.le; omega
 ·exact (h.sc j i e).2
theorem Net.hit_iff {S : Nat → Bool} {j : Nat} : N.hit S j = true ↔ ∃ i, N.by j i = true ∧ S i = true := by
 unfold Net.hit Net.by
 constructor
 ·intro h
  rw [Bool.or_eq_true] at h
  rcases h with h | h
  ·cases e : N.fr j with
   | none => rw [e] at h; cases h
   | some i => rw [e] at h; exact ⟨i, by simp, h⟩
  ·cases e : N.sc j with
   | none => rw [e] at h; cases h
   | some i => rw [e] at h; exact ⟨i, by simp, h⟩
 ·rintro ⟨i, h1, h2⟩
  simp only [Bool.or_eq_true, decide_eq_true_eq] at h1 ⊢
  rcases h1 with e | e
  ·rw [e]; exact .inl h2
  ·rw [e]; exact .inr h2
theorem Net.f_congr (hN : N.Ok) {S S' : Nat → Bool} (h : ∀ i, i < N.nr → S i = S' i) : N.f R C S = N.f R C S' := by
 have h2 : ∀ j, N.hit S j = N.hit S' j := fun j => by
  rw [Bool.eq_iff_iff, Net.hit_iff, Net.hit_iff]
  exact ⟨fun ⟨i, q1, q2⟩ => ⟨i, q1, (h i (hN.by_lt q1)) ▸ q2⟩, fun ⟨i, q1, q2⟩ => ⟨i, q1, (h i (hN.by_lt q1)).symm ▸ q2⟩⟩
 have e1 : sm N.nr (fun i => bif S i then R i else 0) = sm N.nr (fun i => bif S' i then R i else 0) := mg fun i hi => by rw [h i hi]
 have e2 : sm N.np (fun j => bif N.hit S j then 0 else C j) = sm N.np (fun j => bif N.hit S' j then 0 else C j) := mg fun j _ => by rw [h2 j]
 unfold Net.f
 rw [e1, e2]
/-- two sets of readers, crossed -/
def m7 (nF : Nat) (S T : Nat → Bool) (i : Nat) : Bool := bif decide (i < nF) then S i || T i else S i && T i
def m6 (nF : Nat) (S T : Nat → Bool) (i : Nat) : Bool := bif decide (i < nF) then S i && T i else S i || T i
theorem Net.cross (hN : N.Ok) (hC : ∀ j, j < N.np → 0 ≤ C j) (S T : Nat → Bool) : N.f R C (m7 N.nF S T) + N.f R C (m6 N.nF S T) ≤ N.f R C S + N.f R C T := by
 have h1 : sm N.nr (fun i => bif m7 N.nF S T i then R i else 0) + sm N.nr (fun i => bif m6 N.nF S T i then R i else 0) = sm N.nr (fun i => bif S i then R i else 0) + sm N.nr (fun i => bif T i then R i else 0) := by
  rw [← qn, ← qn]
  refine mg fun i _ => ?_
  unfold m7 m6
  cases decide (i < N.nF) <;> cases S i <;> cases T i <;> simp
 have h2 : sm N.np (fun j => bif N.hit (m7 N.nF S T) j then 0 else C j) + sm N.np (fun j => bif N.hit (m6 N.nF S T) j then 0 else C j) ≤ sm N.np (fun j => bif N.hit S j then 0 else C j) + sm N.np (fun j => bif N.hit T j then 0 else C j) := by
  rw [← qn, ← qn]
  refine tq fun j hj => ?_
  have hc := hC j hj
  have e1 : ∀ U V : Nat → Bool, ob (m7 N.nF U V) (N.fr j) = (ob U (N.fr j) || ob V (N.fr j)) := fun U V => by
   cases e : N.fr j with
   | none => rfl
   | some i => simp only [ob, m7, decide_eq_true (hN.fr j i e), cond_true]
  have e2 : ∀ U V : Nat → Bool, ob (m6 N.nF U V) (N.fr j) = (ob U (N.fr j) && ob V (N.fr j)) := fun U V => by
   cases e : N.fr j with
   | none => rfl
   | some i => simp only [ob, m6, decide_eq_true (hN.fr j i e), cond_true]
  have e3 : ∀ U V : Nat → Bool, ob (m7 N.nF U V) (N.sc j) = (ob U (N.sc j) && ob V (N.sc j)) := fun U V => by
   cases e : N.sc j with
   | none => rfl
   | some i => have := hN.sc j i e; simp only [ob, m7, decide_eq_false (show ¬ i < N.nF by omega), cond_false]
  have e4 : ∀ U V : Nat → Bool, ob (m6 N.nF U V) (N.sc j) = (ob U (N.sc j) || ob V (N.sc j)) := fun U V => by
   cases e : N.sc j with
   | none => rfl
   | some i => have := hN.sc j i e; simp only [ob, m6, decide_eq_false (show ¬ i < N.nF by omega), cond_false]
  simp only [Net.hit, e1, e2, e3, e4]
  cases ob S (N.fr j) <;> cases ob T (N.fr j) <;> cases ob S (N.sc j) <;> cases ob T (N.sc j) <;> simp <;> omega
 unfold Net.f
 omega
/-- so much less for the readers of a page, and nothing more on it -/
def Net.lessR (N : Net) (R : Nat → Int) (j : Nat) (n : Int) (i : Nat) : Int := bif N.by j i then R i - n else R i
def eo (C : Nat → Int) (j k : Nat) : Int := bif decide (k = j) then 0 else C k
def cnt (S : Nat → Bool) (o : Option Nat) (n : Int) : Int := bif ob S o then n else 0
theorem Net.f_less (hN : N.Ok) {j : Nat} (hj : j < N.np) (n : Int) (S : Nat → Bool) : N.f (N.lessR R j n) (eo C j) S = N.f R C S - cnt S (N.fr j) n - cnt S (N.sc j) n - (bif N.hit S j then 0 else C j) := by
 have h1 : sm N.np (fun k => bif N.hit S k then 0 else eo C j k) = sm N.np (fun k => bif N.hit S k then 0 else C k) - (bif N.hit S j then 0 else C j) := by
  have := tp hj (bif N.hit S j then 0 else C j)
  rw [← this, ← tn]
  refine mg fun k _ => ?_
  by_cases e : k = j
  ·subst e; simp [eo]
  ·simp [eo, e]
 have h2 : ∀ o : Option Nat, (∀ i, o = some i → i < N.nr) → sm N.nr (fun i => bif decide (o = some i) then (bif S i then n else 0) else 0) = cnt S o n := fun o ho => by
  cases o with
  | none => simp only [cnt, ob, cond_false]; rw [mg (h := fun _ => 0) (fun i _ => by simp), v7]
  | some k =>
   have := tp (ho k rfl) (bif S k then n else 0)
   rw [mg (h := fun i => bif decide (i = k) then (bif S k then n else 0) else 0)]
   ·exact this
   ·intro i _
    by_cases e : i = k
    ·subst e; simp
    ·simp [e, Ne.symm e]
 have h3 : sm N.nr (fun i => bif S i then N.lessR R j n i else 0) = sm N.nr (fun i => bif S i then R i else 0) - cnt S (N.fr j) n - cnt S (N.sc j) n := by
  rw [← h2 (N.fr j) (fun i e => by have := hN.fr j i e; have := hN.le; omega), ← h2 (N.sc j) (fun i e => (hN.sc j i e).2), ← tn, ← tn]
  refine mg fun i _ => ?_
  unfold Net.lessR Net.by
  have hx : ¬ (N.fr j = some i ∧ N.sc j = some i) := fun ⟨q1, q2⟩ => by have := hN.fr j i q1; have := (hN.sc j i q2).1; omega
  by_cases q1 : N.fr j = some i
  ·have q2 : ¬ N.sc j = some i := fun q2 => hx ⟨q1, q2⟩
   cases S i <;> simp [q1, q2]
  ·by_cases q2 : N.sc j = some i
   ·cases S i <;> simp [q1, q2]
   ·cases S i <;> simp [q1, q2]
 unfold Net.f
 rw [h1, h3]
 omega
/-- the least of some numbers, as it is looked for -/
def ml (g : Nat → Int) : Nat → Int
 | 0 => g 0
 | k + 1 => min (ml g k) (g k)
theorem uds {g : Nat → Int} : ∀ {k s : Nat}, s < k ∨ s = 0 → ml g k ≤ g s
 | 0, s, h => by
  obtain rfl : s = 0 := by omega
  exact Int.le_refl _
 | k + 1, s, h => by
  by_cases e : s = k
  ·subst e; exact Int.min_le_right _ _
  ·have := uds (g := g) (k := k) (s := s) (by omega)
   exact Int.le_trans (Int.min_le_left _ _) this
theorem zu {g : Nat → Int} : ∀ k : Nat, ∃ s, (s < k ∨ s = 0) ∧ ml g k = g s
 | 0 => ⟨0, .inr rfl, rfl⟩
 | k + 1 => by
  obtain ⟨s, h1, h2⟩ := zu (g := g) k
  by_cases e : ml g k ≤ g k
  ·exact ⟨s, by omega, by rw [ml, Int.min_eq_left e, h2]⟩
  ·exact ⟨k, by omega, by rw [ml, Int.min_eq_right (by omega)]⟩
/-- a set as a number -/
def qh (S : Nat → Bool) : Nat → Nat
 | 0 => 0
 | n + 1 => qh S n ||| (bif S n then 2 ^ n else 0)
theorem uf0 (S : Nat → Bool) : ∀ n, qh S n < 2 ^ n
 | 0 => by simp [qh]
 | n + 1 => by
  have h := uf0 S n
  have h2 : 2 ^ n < 2 ^ (n + 1) := Nat.pow_lt_pow_right (by omega) (by omega)
  unfold qh
  refine Nat.or_lt_two_pow (by omega) ?_
  cases S n
  ·exact Nat.two_pow_pos _
  ·exact h2
theorem uf1 (S : Nat → Bool) : ∀ n i, (qh S n).testBit i = (decide (i < n) && S i)
 | 0, i => by simp [qh]
 | n + 1, i => by
  have h := uf1 S n i
  unfold qh
  rw [Nat.testBit_or, h]
  by_cases e : i = n
  ·subst e
   cases hS : S i <;> simp
  ·have e2 : decide (i < n + 1) = decide (i < n) := by rw [decide_eq_decide]; omega
   rw [e2]
   cases hS : S n
   ·simp
   ·simp only [cond_true, Nat.testBit_two_pow]
    rw [decide_eq_false (Ne.symm e), Bool.or_false]
def Net.most (N : Net) (R C : Nat → Int) : Int := ml (fun s => N.f R C fun i => s.testBit i) (2 ^ N.nr)
theorem Net.most_le (hN : N.Ok) (S : Nat → Bool) : N.most R C ≤ N.f R C S := by
 have h := uds (g := fun s => N.f R C fun i => s.testBit i) (k := 2 ^ N.nr) (s := qh S N.nr) (.inl (uf0 S _))
 refine Int.le_trans h (Int.le_of_eq (Net.f_congr hN fun i hi => ?_))
 rw [uf1, decide_eq_true hi, Bool.true_and]
theorem Net.most_get (N : Net) (R C : Nat → Int) : ∃ S : Nat → Bool, N.most R C = N.f R C S := by
 obtain ⟨s, _, h⟩ := zu (g := fun s => N.f R C fun i => s.testBit i) (2 ^ N.nr)
 exact ⟨fun i => s.testBit i, h⟩
def o1 (n : Int) (R : Nat → Int) : Option Nat → Int
 | none => n
 | some i => min n (R i)
/-- the most on one page -/
def Net.alone (N : Net) (R C : Nat → Int) (j : Nat) : Int := o1 (o1 (C j) R (N.fr j)) R (N.sc j)
theorem udr {n m : Int} {o : Option Nat} : m ≤ o1 n R o ↔ m ≤ n ∧ ∀ i, o = some i → m ≤ R i := by
 cases o with
 | none => simp [o1]
 | some k => simp only [o1, Int.le_min, Option.some.injEq, forall_eq']
theorem Net.le_alone {j : Nat} {m : Int} : m ≤ N.alone R C j ↔ m ≤ C j ∧ ∀ i, N.by j i = true → m ≤ R i := by
 unfold Net.alone Net.by
 rw [udr, udr]
 simp only [Bool.or_eq_true, decide_eq_true_eq]
 exact ⟨fun ⟨⟨h1, h2⟩, h3⟩ => ⟨h1, fun i hi => hi.elim (h2 i) (h3 i)⟩, fun ⟨h1, h2⟩ => ⟨⟨h1, fun i hi => h2 i (.inl hi)⟩, fun i hi => h2 i (.inr hi)⟩⟩
/-- what remains, and so much less of it -/
theorem Net.less_le (hN : N.Ok) {j : Nat} (hj : j < N.np) {n : Int} (h0 : 0 ≤ n) (hn : n ≤ C j) : n + N.most (N.lessR R j n) (eo C j) ≤ N.most R C := by
 obtain ⟨S, hS⟩ := N.most_get R C
 have h1 := Net.most_le (R := N.lessR R j n) (C := eo C j) hN S
 rw [Net.f_less hN hj] at h1
 rw [hS]
 cases e : N.hit S j
 ·rw [e] at h1
  have e2 := e
  unfold Net.hit at e2
  rw [Bool.or_eq_false_iff] at e2
  simp only [cnt, e2.1, e2.2, cond_false] at h1
  omega
 ·rw [e] at h1
  unfold Net.hit at e
  rw [Bool.or_eq_true] at e
  unfold cnt at h1
  rcases e with q | q
  ·rw [q] at h1
   cases e2 : ob S (N.sc j) <;> rw [e2] at h1 <;> simp only [cond_true, cond_false] at h1 <;> omega
  ·rw [q] at h1
   cases e2 : ob S (N.fr j) <;> rw [e2] at h1 <;> simp only [cond_true, cond_false] at h1 <;> omega
/-- of each page there is a worst number of errors -/
theorem Net.greedy (hN : N.Ok) (hR : ∀ i, i < N.nr → 0 ≤ R i) (hC : ∀ j, j < N.np → 0 ≤ C j) {j : Nat} (hj : j < N.np) : ∃ n : Int, 0 ≤ n ∧ n ≤ N.alone R C j ∧ N.most R C ≤ n + N.most (N.lessR R j n) (eo C j) := by
 -- the largest number that every set allows
 have hcj := hC j hj
 have hal : 0 ≤ N.alone R C j := Net.le_alone.2 ⟨hcj, fun i hi => hR i (hN.by_lt hi)⟩
 have key : ∀ n : Int, 0 ≤ n → n ≤ N.alone R C j → (∀ S, ob S (N.fr j) = true → ob S (N.sc j) = true → N.most R C ≤ N.f R C S - n) → (n = N.alone R C j ∨ ∃ S, ob S (N.fr j) = true ∧ ob S (N.sc j) = true ∧ N.f R C S - n = N.most R C) → N.most R C ≤ n + N.most (N.lessR R j n) (eo C j) := by
  intro n h0 h1 h2 h3
  obtain ⟨S, hS⟩ := N.most_get (N.lessR R j n) (eo C j)
  rw [hS, Net.f_less hN hj]
  have hm := Net.most_le (R := R) (C := C) hN S
  cases e1 : ob S (N.fr j) <;> cases e2 : ob S (N.sc j)
  ·have e : N.hit S j = false := by simp [Net.hit, e1, e2]
   simp only [cnt, e1, e2, e, cond_false]
   -- no reader of the page is in the set
   rcases h3 with h3 | ⟨T, t1, t2, t3⟩
   ·-- as1 much as1 can be: the page itself, or a reader
    by_cases hc : n = C j
    ·omega
    ·have h4 := (Net.le_alone.1 h1).1
     obtain ⟨i, hi, hri⟩ : ∃ i, N.by j i = true ∧ R i = n := by
      refine Classical.byContradiction fun hno => ?_
      have : n + 1 ≤ N.alone R C j := Net.le_alone.2 ⟨by omega, fun i hi => by
       have q1 := (Net.le_alone.1 h1).2 i hi
       have q2 : R i ≠ n := fun q => hno ⟨i, hi, q⟩
       omega⟩
      omega
     -- the set with that reader
     have h5 := Net.most_le (R := R) (C := C) hN (fun k => S k || decide (k = i))
     have h6 : N.f R C (fun k => S k || decide (k = i)) ≤ N.f R C S + R i - C j := by
      have g1 : sm N.nr (fun k => bif (S k || decide (k = i)) then R k else 0) ≤ sm N.nr (fun k => bif S k then R k else 0) + R i := by
       have := tp (hN.by_lt hi) (R i)
       rw [← this, ← qn]
       refine tq fun k hk => ?_
       have := hR k hk
       by_cases q : k = i
       ·subst q; cases S k <;> simp <;> omega
       ·cases S k <;> simp [q]
      have g2 : sm N.np (fun k => bif N.hit (fun k => S k || decide (k = i)) k then 0 else C k) ≤ sm N.np (fun k => bif N.hit S k then 0 else C k) - C j := by
       have := tp hj (C j)
       rw [← this, ← tn]
       refine tq fun k hk => ?_
       have hck := hC k hk
       have mono : N.hit S k = true → N.hit (fun k => S k || decide (k = i)) k = true := fun q => by
        obtain ⟨x, x1, x2⟩ := Net.hit_iff.1 q
        exact Net.hit_iff.2 ⟨x, x1, by simp [x2]⟩
       by_cases q : k = j
       ·subst q
        rw [show N.hit (fun k => S k || decide (k = i)) k = true from Net.hit_iff.2 ⟨i, hi, by simp⟩, e]
        simp
       ·rw [decide_eq_false q]
        cases q1 : N.hit S k
        ·cases N.hit (fun k => S k || decide (k = i)) k <;> simp <;> omega
        ·rw [mono q1]; simp
      unfold Net.f
      dsimp only
      omega
     omega
   ·-- crossed with a set that has both
    have hx := Net.cross (R := R) (C := eo C j) hN (fun k hk => by unfold eo; cases decide (k = j) <;> simp; exact hC k hk) S T
    have hsub : ∀ U : Nat → Bool, N.f R (eo C j) U = N.f R C U - (bif N.hit U j then 0 else C j) := fun U => by
     have := Net.f_less (R := R) (C := C) hN hj 0 U
     have e0 : N.lessR R j 0 = R := by funext i; unfold Net.lessR; cases N.by j i <;> simp
     rw [e0] at this
     rw [this]
     unfold cnt
     cases ob U (N.fr j) <;> cases ob U (N.sc j) <;> simp
    rw [hsub, hsub, hsub, hsub, e, show N.hit T j = true by simp [Net.hit, t1]] at hx
    obtain ⟨a, ha⟩ : ∃ a, N.fr j = some a := by cases q : N.fr j with
     | none => rw [q] at t1; cases t1
     | some a => exact ⟨a, rfl⟩
    obtain ⟨b, hb⟩ : ∃ b, N.sc j = some b := by cases q : N.sc j with
     | none => rw [q] at t2; cases t2
     | some b => exact ⟨b, rfl⟩
    rw [ha] at t1
    rw [hb] at t2
    have hA : N.hit (m7 N.nF S T) j = true := by
     simp only [Net.hit, ha, ob, m7, decide_eq_true (hN.fr j a ha), cond_true]
     rw [show T a = true from t1]; simp
    have hB : N.hit (m6 N.nF S T) j = true := by
     have := hN.sc j b hb
     simp only [Net.hit, hb, ob, m6, decide_eq_false (show ¬ b < N.nF by omega), cond_false]
     rw [show T b = true from t2]; simp
    rw [hA, hB] at hx
    simp only [cond_true, cond_false] at hx
    have q1 := Net.most_le (R := R) (C := C) hN (m7 N.nF S T)
    have q2 := Net.most_le (R := R) (C := C) hN (m6 N.nF S T)
    omega
  ·have e : N.hit S j = true := by simp [Net.hit, e2]
   simp only [cnt, e1, e2, e, cond_false, cond_true]
   omega
  ·have e : N.hit S j = true := by simp [Net.hit, e1]
   simp only [cnt, e1, e2, e, cond_false, cond_true]
   omega
  ·have e : N.hit S j = true := by simp [Net.hit, e1]
   simp only [cnt, e1, e2, e, cond_true]
   have := h2 S e1 e2
   omega
 by_cases hb : ∀ S, ob S (N.fr j) = true → ob S (N.sc j) = true → N.most R C ≤ N.f R C S - N.alone R C j
 ·exact ⟨_, hal, Int.le_refl _, key _ hal (Int.le_refl _) hb (.inl rfl)⟩
 ·-- the r9 of those that have both
  have : ∃ m : Int, (∃ S, ob S (N.fr j) = true ∧ ob S (N.sc j) = true ∧ N.f R C S = m) ∧ ∀ S, ob S (N.fr j) = true → ob S (N.sc j) = true → m ≤ N.f R C S := by
   obtain ⟨S0, s1, s2⟩ : ∃ S, ob S (N.fr j) = true ∧ ob S (N.sc j) = true := by
    refine Classical.byContradiction fun hno => hb fun S h1 h2 => absurd ⟨S, h1, h2⟩ hno
   have hlow : ∀ S, ob S (N.fr j) = true → ob S (N.sc j) = true → N.most R C ≤ N.f R C S := fun S _ _ => Net.most_le hN S
   generalize hd : (N.f R C S0 - N.most R C).toNat = d
   induction d using Nat.strongRecOn generalizing S0 with
   | _ d ih =>
    by_cases hmin : ∀ S, ob S (N.fr j) = true → ob S (N.sc j) = true → N.f R C S0 ≤ N.f R C S
    ·exact ⟨_, ⟨S0, s1, s2, rfl⟩, hmin⟩
    ·obtain ⟨S1, hS1⟩ := Classical.not_forall.1 hmin
     obtain ⟨t1, hS2⟩ := Classical.not_imp.1 hS1
     obtain ⟨t2, hS3⟩ := Classical.not_imp.1 hS2
     have hl1 := hlow S1 t1 t2
     have hl0 := hlow S0 s1 s2
     exact ih _ (by omega) S1 t1 t2 rfl
  obtain ⟨m, ⟨S, q1, q2, q3⟩, q4⟩ := this
  have hm := Net.most_le (R := R) (C := C) hN S
  have hlt : m - N.most R C < N.alone R C j := by
   refine Classical.byContradiction fun hno => hb fun T t1 t2 => ?_
   have := q4 T t1 t2
   omega
  exact ⟨m - N.most R C, by omega, by omega, key _ (by omega) (by omega) (fun T t1 t2 => by have := q4 T t1 t2; omega) (.inr ⟨S, q1, q2, by omega⟩)⟩
end
end Go.AB
namespace Go.PB
structure bl where
 id : Int
 miss : Int
 deriving DecidableEq
structure am where
 fr : Int
 to : Int
 fst : Int
 snd : Int
 found : List PlaceD
 well : List PlaceD
 deriving DecidableEq
structure af where
 text : ai
 firsts : List bl
 seconds : List bl
 pages : List am
 deriving DecidableEq
/-- proofs at work -/
structure co where
 p : af
 words : List Int
 all : List (List PlaceD)
 both : List (List PlaceD)
structure bj where
 lo : Int
 hi : Int
 deriving DecidableEq
end Go.PB
namespace Go.AB
open Go Go.RowKit
open Go.AB.Enc (cells)
open Go.PB (av ai PlaceD az bf ba bl am af co bj)
instance : Enc bl := ⟨fun x => [.v (.int .i64 x.id), .v (.int .i64 x.miss)], 2, fun _ => rfl, fun m x c h => by
 simp only [List.mem_cons, List.not_mem_nil, or_false] at h; rcases h with rfl | rfl <;> exact .v, fun x c h => by
 simp only [List.mem_cons, List.not_mem_nil, or_false] at h; rcases h with rfl | rfl <;> rfl⟩
instance : Enc bj := ⟨fun x => [.v (.int .i64 x.lo), .v (.int .i64 x.hi)], 2, fun _ => rfl, fun m x c h => by
 simp only [List.mem_cons, List.not_mem_nil, or_false] at h; rcases h with rfl | rfl <;> exact .v, fun x c h => by
 simp only [List.mem_cons, List.not_mem_nil, or_false] at h; rcases h with rfl | rfl <;> rfl⟩
instance : Enc am := ⟨fun x => [.v (.int .i64 x.fr), .v (.int .i64 x.to), .v (.int .i64 x.fst), .v (.int .i64 x.snd), lst x.found, lst x.well], 6, fun _ => rfl, fun m x c h => by
 simp only [List.mem_cons, List.not_mem_nil, or_false] at h
 rcases h with rfl | rfl | rfl | rfl | rfl | rfl
 ·exact .v
 ·exact .v
 ·exact .v
 ·exact .v
 ·exact br m _
 ·exact br m _, fun x c h => by
 simp only [List.mem_cons, List.not_mem_nil, or_false] at h; rcases h with rfl | rfl | rfl | rfl | rfl | rfl <;> rfl⟩
instance : Enc af := ⟨fun x => [lst x.text, lst x.firsts, lst x.seconds, lst x.pages], 4, fun _ => rfl, fun m x c h => by
 simp only [List.mem_cons, List.not_mem_nil, or_false] at h
 rcases h with rfl | rfl | rfl | rfl
 ·exact br m _
 ·exact br m _
 ·exact br m _
 ·exact br m _, fun x c h => by
 simp only [List.mem_cons, List.not_mem_nil, or_false] at h; rcases h with rfl | rfl | rfl | rfl <;> rfl⟩
/-! ### Lines of a text -/
/-- the number of a chapter's first line -/
def f5 (t : ai) (k : Nat) : Nat := ((t.take k).map fun c => c.lines.length).sum
theorem ubs (t : ai) : f5 t 0 = 0 := by simp [f5]
theorem tm {t : ai} {k : Nat} {c : av} (h : t[k]? = some c) : f5 t (k + 1) = f5 t k + c.lines.length := by
 unfold f5
 rw [List.take_add_one, h]
 simp
def mx (t : ai) : Nat := f5 t t.length
/-- the number of the line of a place -/
def qw (t : ai) (q : PlaceD) : Int := q.ln + (f5 t q.ch.toNat : Int)
def ib (t : ai) (x : am) (q : PlaceD) : Bool := inB (qw t q) x.fr x.to
/-! ### Valid proofs -/
def ne (a b : PlaceD) : Bool := decide (fg (c6 a) (c6 b) < 0)
/-- a place of a list may stand where it does -/
def jl (t : ai) (x : am) (l : List PlaceD) (i : Nat) : Bool := match l[i]? with
 | none => true
 | some q => fy t q && ib t x q && (decide (i = 0) || match l[i - 1]? with | none => true | some a => ne a q)
def dt (t : ai) (x : am) (l : List PlaceD) (n : Nat) : Bool := (List.range n).all (jl t x l)
theorem gy (t : ai) (x : am) (l : List PlaceD) (n : Nat) : dt t x l (n + 1) = (dt t x l n && jl t x l n) := by
 unfold dt
 rw [List.range_succ, List.all_append]
 simp
def ig (t : ai) (x : am) (r : Int) (l : List PlaceD) : Bool := (decide (0 ≤ r) || decide (l = [])) && dt t x l l.length
def gq (r : bl) : Bool := inB r.id 0 9999 && inB r.miss 0 90
def jw (p : af) : Bool := decide (p.firsts.length ≤ 3) && decide (p.seconds.length ≤ 3) && (p.firsts ++ p.seconds).all gq && decide ((p.firsts ++ p.seconds).map (·.id)).Nodup
def lx (p : af) (last : Int) (x : am) : Bool := decide (last < x.fr) && decide (x.fr ≤ x.to) && decide (x.to < (mx p.text : Int)) && inB x.fst (-1) ((p.firsts.length : Int) - 1) && ig p.text x x.fst x.found && inB x.snd (-1) ((p.seconds.length : Int) - 1) && ig p.text x x.snd x.well
/-- the last line ahead of a page -/
def gt (l : List am) : Nat → Int
 | 0 => -1
 | i + 1 => match l[i]? with | some x => x.to | none => -1
def qs (p : af) (i : Nat) : Bool := match p.pages[i]? with
 | none => true
 | some x => lx p (gt p.pages i) x
def qr (p : af) (n : Nat) : Bool := (List.range n).all (qs p)
theorem uct (p : af) (n : Nat) : qr p (n + 1) = (qr p n && qs p n) := by
 unfold qr
 rw [List.range_succ, List.all_append]
 simp
def fw (p : af) : Bool := jw p && decide (p.pages.length ≤ 8) && qr p p.pages.length
def cm (p : af) : Int := bif dv p.text then (bif fw p then 0 else 90) else 10
/-! ### What is found on a page -/
def ey (t : ai) (x : am) : List PlaceD := (gn t).filter fun q => decide (q ∈ x.found) || decide (q ∈ x.well)
def d9 (t : ai) (x : am) : List PlaceD := (gn t).filter fun q => decide (q ∈ x.found) && decide (q ∈ x.well)
def fl (t : ai) (x : am) : Nat := ((gn t).filter (ib t x)).length
/-! ### Bounds of readers -/
def el (b : Bool) (x : am) : Int := bif b then x.snd else x.fst
def di (b : Bool) (x : am) : List PlaceD := bif b then x.well else x.found
def d8 (p : af) (b : Bool) : List bl := bif b then p.seconds else p.firsts
def d7 (l : List am) (g : am → Nat) : Nat := (l.map g).sum
theorem ti {l : List am} {k : Nat} {x : am} {g : am → Nat} (h : l[k]? = some x) : d7 (l.take (k + 1)) g = d7 (l.take k) g + g x := by
 unfold d7
 rw [List.take_add_one, h]
 simp
def gm (b : Bool) (i : Int) (x : am) : Nat := bif decide (el b x = i) then (di b x).length else 0
def iy (t : ai) (b : Bool) (i : Int) (x : am) : Nat := bif decide (el b x = i) then (ey t x).length else 0
def ke (p : af) (b : Bool) (i : Nat) : Int := match (d8 p b)[i]? with | some r => r.miss | none => 0
def na (p : af) (b : Bool) (i : Nat) : Int := 100 * (d7 p.pages (gm b i) : Int) / (100 - ke p b i)
def mo (p : af) (b : Bool) (i : Nat) : Int := na p b i - (d7 p.pages (iy p.text b i) : Int)
/-! ### What may remain -/
def cc (p : af) : Nat := p.firsts.length + p.seconds.length
def bv (p : af) (i : Nat) : Int := bif decide (i < p.firsts.length) then mo p false i else mo p true (i - p.firsts.length)
def mr (t : ai) (x : am) : Int := (fl t x : Int) - ((ey t x).length : Int)
def ga (p : af) : Bool := (List.range (cc p)).all fun i => decide (0 ≤ bv p i)
def bi (p : af) : Net where
 nF := p.firsts.length
 nr := cc p
 np := p.pages.length
 fr := fun j => match p.pages[j]? with | some x => (bif decide (0 ≤ x.fst) then some x.fst.toNat else none) | none => none
 sc := fun j => match p.pages[j]? with | some x => (bif decide (0 ≤ x.snd) then some (p.firsts.length + x.snd.toNat) else none) | none => none
end Go.AB
namespace Go.AB
/-- so much on a page is the most of what loses nothing -/
structure Net.Pick (N : Net) (R C : Nat → Int) (j : Nat) (n : Int) : Prop where
 nn : 0 ≤ n
 le : n ≤ N.alone R C j
 ok : N.most R C ≤ n + N.most (N.lessR R j n) (eo C j)
 max : ∀ m, n < m → m ≤ N.alone R C j → ¬ N.most R C ≤ m + N.most (N.lessR R j m) (eo C j)
section
variable {N : Net} {R C : Nat → Int}
theorem Net.Pick.uniq {j : Nat} {n m : Int} (h : N.Pick R C j n) (k : N.Pick R C j m) : n = m := by
 rcases Int.lt_trichotomy n m with q | q | q
 ·exact absurd k.ok (h.max m q k.le)
 ·exact q
 ·exact absurd h.ok (k.max n q h.le)
theorem Net.pick_ex (hN : N.Ok) (hR : ∀ i, i < N.nr → 0 ≤ R i) (hC : ∀ j, j < N.np → 0 ≤ C j) {j : Nat} (hj : j < N.np) : ∃ n, N.Pick R C j n := by
 obtain ⟨n, h1, h2, h3⟩ := Net.greedy hN hR hC hj
 generalize hd : (N.alone R C j - n).toNat = d
 induction d using Nat.strongRecOn generalizing n with
 | _ d ih =>
  by_cases hmax : ∀ m, n < m → m ≤ N.alone R C j → ¬ N.most R C ≤ m + N.most (N.lessR R j m) (eo C j)
  ·exact ⟨n, h1, h2, h3, hmax⟩
  ·obtain ⟨m, hm⟩ := Classical.not_forall.1 hmax
   obtain ⟨q1, hm⟩ := Classical.not_imp.1 hm
   obtain ⟨q2, hm⟩ := Classical.not_imp.1 hm
   exact ih _ (by omega) m (by omega) q2 (Classical.not_not.1 hm) rfl
open Classical in
noncomputable def Net.pick (N : Net) (R C : Nat → Int) (j : Nat) : Int := if h : ∃ n, N.Pick R C j n then h.choose else 0
theorem Net.pick_spec {j : Nat} (h : ∃ n, N.Pick R C j n) : N.Pick R C j (N.pick R C j) := by
 unfold Net.pick
 rw [dif_pos h]
 exact h.choose_spec
theorem Net.pick_eq {j : Nat} {n : Int} (h : N.Pick R C j n) : N.pick R C j = n := (Net.pick_spec ⟨n, h⟩).uniq h
/-- what may remain ahead of a page, by the worst truth -/
noncomputable def Net.room (N : Net) (R C : Nat → Int) : Nat → (Nat → Int) × (Nat → Int)
 | 0 => (R, C)
 | i + 1 => (N.lessR (N.room R C i).1 i (N.pick (N.room R C i).1 (N.room R C i).2 i), eo (N.room R C i).2 i)
/-- the worst truth -/
noncomputable def Net.worst (N : Net) (R C : Nat → Int) (i : Nat) : Int := N.pick (N.room R C i).1 (N.room R C i).2 i
theorem Net.room_succ (i : Nat) : N.room R C (i + 1) = (N.lessR (N.room R C i).1 i (N.worst R C i), eo (N.room R C i).2 i) := rfl
structure Net.RoomOk (N : Net) (R C : Nat → Int) (i : Nat) : Prop where
 rnn : ∀ r, r < N.nr → 0 ≤ (N.room R C i).1 r
 cnn : ∀ j, j < N.np → 0 ≤ (N.room R C i).2 j
 all : N.most (N.room R C i).1 (N.room R C i).2 = N.most R C - sm i (N.worst R C)
 caps : ∀ j, (N.room R C i).2 j = bif decide (j < i) then 0 else C j
 rds : ∀ r, (N.room R C i).1 r = R r - sm i (fun j => bif N.by j r then N.worst R C j else 0)
theorem Net.room_ok (hN : N.Ok) (hR : ∀ i, i < N.nr → 0 ≤ R i) (hC : ∀ j, j < N.np → 0 ≤ C j) : ∀ i, i ≤ N.np → N.RoomOk R C i
 | 0, _ => ⟨hR, hC, by simp [Net.room, sm], fun j => by simp [Net.room], fun r => by simp [Net.room, sm]⟩
 | i + 1, hi => by
  have h := Net.room_ok hN hR hC i (by omega)
  have hp : N.Pick (N.room R C i).1 (N.room R C i).2 i (N.worst R C i) := Net.pick_spec (Net.pick_ex hN h.rnn h.cnn (by omega))
  have hal := Net.le_alone.1 hp.le
  have hle := Net.less_le (R := (N.room R C i).1) (C := (N.room R C i).2) hN (show i < N.np by omega) hp.nn hal.1
  have hok := hp.ok
  refine ⟨fun r hr => ?_, fun j hj => ?_, ?_, fun j => ?_, fun r => ?_⟩
  ·rw [Net.room_succ]
   show 0 ≤ N.lessR _ i _ r
   unfold Net.lessR
   cases hb : N.by i r
   ·exact h.rnn r hr
   ·have := hal.2 r hb
    simp only [cond_true]; omega
  ·rw [Net.room_succ]
   show 0 ≤ eo _ i j
   unfold eo
   cases decide (j = i)
   ·exact h.cnn j hj
   ·exact Int.le_refl _
  ·rw [Net.room_succ]
   have := h.all
   simp only [sm]
   show N.most (N.lessR _ i _) (eo _ i) = _
   omega
  ·rw [Net.room_succ]
   show eo _ i j = _
   unfold eo
   rw [h.caps j]
   by_cases e : j = i
   ·subst e; simp
   ·rw [decide_eq_false e, cond_false, show decide (j < i + 1) = decide (j < i) by rw [decide_eq_decide]; omega]
  ·rw [Net.room_succ]
   show N.lessR _ i _ r = _
   unfold Net.lessR
   rw [h.rds r]
   simp only [sm]
   cases N.by i r <;> simp <;> omega
theorem Net.worst_pick (hN : N.Ok) (hR : ∀ i, i < N.nr → 0 ≤ R i) (hC : ∀ j, j < N.np → 0 ≤ C j) {i : Nat} (hi : i < N.np) : N.Pick (N.room R C i).1 (N.room R C i).2 i (N.worst R C i) := by
 have h := Net.room_ok hN hR hC i (by omega)
 exact Net.pick_spec (Net.pick_ex hN h.rnn h.cnn hi)
end
end Go.AB
namespace Go.AB
open Go Go.RowKit
open Go.AB.Enc (cells)
open Go.PB (av ai PlaceD az bf ba bl am af co bj)
theorem sumL_sm (g : am → Nat) : ∀ l : List am, ((d7 l g : Nat) : Int) = sm l.length (fun j => match l[j]? with | some x => (g x : Int) | none => 0) := by
 intro l
 have key : ∀ k, k ≤ l.length → ((d7 (l.take k) g : Nat) : Int) = sm k (fun j => match l[j]? with | some x => (g x : Int) | none => 0) := by
  intro k
  induction k with
  | zero => intro _; rfl
  | succ k ih =>
   intro hk
   have hx : l[k]? = some l[k] := List.getElem?_eq_getElem (by omega)
   rw [ti hx]
   simp only [sm, hx]
   have := ih (by omega)
   omega
 have := key l.length (Nat.le_refl _)
 rwa [List.take_length] at this
/-! ### What valid proofs are -/
structure ez (p : af) : Prop where
 text : dv p.text = true
 nf : p.firsts.length ≤ 3
 ns : p.seconds.length ≤ 3
 np : p.pages.length ≤ 8
 rd : ∀ r ∈ p.firsts ++ p.seconds, gq r = true
 page : ∀ (j : Nat) (x : am), p.pages[j]? = some x → lx p (gt p.pages j) x = true
theorem lg {p : af} (h : cm p = 0) : ez p ∧ fw p = true := by
 unfold cm at h
 cases ht : dv p.text
 ·rw [ht] at h; simp at h
 ·cases hp : fw p
  ·rw [ht, hp] at h; simp at h
  ·refine ⟨?_, rfl⟩
   unfold fw jw at hp
   simp only [Bool.and_eq_true, decide_eq_true_eq] at hp
   obtain ⟨⟨⟨⟨⟨h1, h2⟩, h3⟩, _⟩, h5⟩, h6⟩ := hp
   refine ⟨ht, h1, h2, h5, fun r hr => List.all_eq_true.1 h3 r hr, fun j x hx => ?_⟩
   have hj := (List.getElem?_eq_some_iff.1 hx).1
   have := List.all_eq_true.1 h6 j (List.mem_range.2 hj)
   unfold qs at this
   rw [hx] at this
   exact this
structure ng (p : af) (last : Int) (x : am) : Prop where
 fr : last < x.fr
 to : x.fr ≤ x.to
 lt : x.to < (mx p.text : Int)
 fst : -1 ≤ x.fst ∧ x.fst ≤ (p.firsts.length : Int) - 1
 snd : -1 ≤ x.snd ∧ x.snd ≤ (p.seconds.length : Int) - 1
 found : ig p.text x x.fst x.found = true
 well : ig p.text x x.snd x.well = true
theorem pageB_true {p : af} {last : Int} {x : am} : lx p last x = true ↔ ng p last x := by
 unfold lx
 simp only [Bool.and_eq_true, decide_eq_true_eq, inB_true]
 exact ⟨fun ⟨⟨⟨⟨⟨⟨h1, h2⟩, h3⟩, h4⟩, h5⟩, h6⟩, h7⟩ => ⟨h1, h2, h3, h4, h6, h5, h7⟩, fun h => ⟨⟨⟨⟨⟨⟨h.fr, h.to⟩, h.lt⟩, h.fst⟩, h.found⟩, h.snd⟩, h.well⟩⟩
theorem m4 {t : ai} {x : am} {r : Int} {l : List PlaceD} (h : ig t x r l = true) {q : PlaceD} (hq : q ∈ l) : fy t q = true ∧ ib t x q = true := by
 unfold ig at h
 rw [Bool.and_eq_true] at h
 obtain ⟨i, hi⟩ := List.getElem?_of_mem hq
 have := List.all_eq_true.1 h.2 i (List.mem_range.2 (List.getElem?_eq_some_iff.1 hi).1)
 unfold jl at this
 rw [hi] at this
 simp only [Bool.and_eq_true] at this
 exact this.1
theorem umt {t : ai} {x : am} {r : Int} {l : List PlaceD} (h : ig t x r l = true) {i : Nat} {a q : PlaceD} (ha : l[i]? = some a) (hq : l[i + 1]? = some q) : fg (c6 a) (c6 q) < 0 := by
 unfold ig at h
 rw [Bool.and_eq_true] at h
 have := List.all_eq_true.1 h.2 (i + 1) (List.mem_range.2 (List.getElem?_eq_some_iff.1 hq).1)
 unfold jl at this
 rw [hq, Nat.add_sub_cancel, ha] at this
 have h9 : (fy t q = true ∧ ib t x q = true) ∧ fg (c6 a) (c6 q) < 0 := by simpa [ne] using this
 exact h9.2
theorem uf5 {a b c : PlaceD} (h : fg (c6 a) (c6 b) < 0) (k : fg (c6 b) (c6 c) < 0) : fg (c6 a) (c6 c) < 0 := by
 rw [oe (by rfl)] at h k ⊢
 exact r6 h k
theorem uaz (a : PlaceD) : ¬ fg (c6 a) (c6 a) < 0 := by
 rw [oe (by rfl)]
 exact py _
theorem uia {l : List PlaceD} (h : ∀ (i : Nat) (a q : PlaceD), l[i]? = some a → l[i + 1]? = some q → fg (c6 a) (c6 q) < 0) : l.Pairwise fun a b => fg (c6 a) (c6 b) < 0 := by
 rw [List.pairwise_iff_getElem]
 intro i j hi hj hij
 have key : ∀ d (hd : i + 1 + d < l.length), fg (c6 l[i]) (c6 l[i + 1 + d]) < 0 := by
  intro d
  induction d with
  | zero => intro hd; exact h i _ _ (List.getElem?_eq_getElem hi) (List.getElem?_eq_getElem hd)
  | succ d ih =>
   intro hd
   exact uf5 (ih (by omega)) (h (i + 1 + d) _ _ (List.getElem?_eq_getElem (by omega)) (List.getElem?_eq_getElem hd))
 have := key (j - (i + 1)) (by omega)
 simpa [show i + 1 + (j - (i + 1)) = j by omega] using this
theorem xr {t : ai} {x : am} {r : Int} {l : List PlaceD} (h : ig t x r l = true) : l.Pairwise fun a b => fg (c6 a) (c6 b) < 0 := uia fun _ _ _ ha hq => umt h ha hq
/-- lists in order, with the same places -/
theorem v6 : ∀ {l m : List PlaceD}, l.Pairwise (fun a b => fg (c6 a) (c6 b) < 0) → m.Pairwise (fun a b => fg (c6 a) (c6 b) < 0) → (∀ q, q ∈ l ↔ q ∈ m) → l = m
 | [], [], _, _, _ => rfl
 | [], b :: m, _, _, h => by have := (h b).2 (List.mem_cons_self ..); cases this
 | a :: l, [], _, _, h => by have := (h a).1 (List.mem_cons_self ..); cases this
 | a :: l, b :: m, h1, h2, h => by
  rw [List.pairwise_cons] at h1 h2
  have hab : a = b := by
   have p1 := (h a).1 (List.mem_cons_self ..)
   have p2 := (h b).2 (List.mem_cons_self ..)
   rw [List.mem_cons] at p1 p2
   rcases p1 with rfl | p1
   ·rfl
   ·rcases p2 with rfl | p2
    ·rfl
    ·exact absurd (uf5 (h1.1 b p2) (h2.1 a p1)) (uaz a)
  subst hab
  rw [v6 h1.2 h2.2 fun q => ?_]
  constructor
  ·intro hq
   have := (h q).1 (List.mem_cons_of_mem _ hq)
   rw [List.mem_cons] at this
   rcases this with rfl | this
   ·exact absurd (h1.1 q hq) (uaz q)
   ·exact this
  ·intro hq
   have := (h q).2 (List.mem_cons_of_mem _ hq)
   rw [List.mem_cons] at this
   rcases this with rfl | this
   ·exact absurd (h2.1 q hq) (uaz q)
   ·exact this
/-! ### Pages between readers -/
def t6 (p : af) (j : Nat) (g : am → Int) : Int := match p.pages[j]? with | some x => g x | none => 0
theorem wr {p : af} {j : Nat} {x : am} (h : p.pages[j]? = some x) (g : am → Int) : t6 p j g = g x := by unfold t6; rw [h]
def cj (p : af) (j : Nat) : Int := t6 p j (mr p.text)
theorem w8 {p : af} (h : ez p) : (bi p).Ok := by
 refine ⟨Nat.le_add_right _ _, fun j i hi => ?_, fun j i hi => ?_⟩
 ·simp only [bi] at hi ⊢
  cases hx : p.pages[j]? with
  | none => rw [hx] at hi; cases hi
  | some x =>
   rw [hx] at hi
   have hp := (pageB_true.1 (h.page j x hx)).fst
   dsimp only at hi
   by_cases q : 0 ≤ x.fst
   ·rw [decide_eq_true q, cond_true, Option.some.injEq] at hi
    omega
   ·rw [decide_eq_false q] at hi; cases hi
 ·simp only [bi, cc] at hi ⊢
  cases hx : p.pages[j]? with
  | none => rw [hx] at hi; cases hi
  | some x =>
   rw [hx] at hi
   have hp := (pageB_true.1 (h.page j x hx)).snd
   dsimp only at hi
   by_cases q : 0 ≤ x.snd
   ·rw [decide_eq_true q, cond_true, Option.some.injEq] at hi
    omega
   ·rw [decide_eq_false q] at hi; cases hi
/-- the readers of a page, as the program lists them -/
def da (p : af) (x : am) : List Int := (bif decide (0 ≤ x.fst) then [x.fst] else []) ++ (bif decide (0 ≤ x.snd) then [(p.firsts.length : Int) + x.snd] else [])
theorem ueh {p : af} {j : Nat} {x : am} (hx : p.pages[j]? = some x) (S : Nat → Bool) : (bi p).hit S j = (da p x).any fun k => S k.toNat := by
 simp only [Net.hit, bi, hx, da, List.any_append]
 congr 1
 ·cases decide (0 ≤ x.fst) <;> simp [ob]
 ·by_cases q : 0 ≤ x.snd
  ·simp [q, ob, show ((p.firsts.length : Int) + x.snd).toNat = p.firsts.length + x.snd.toNat by omega]
  ·simp [q, ob]
theorem uav {p : af} (h : ez p) {j : Nat} {x : am} (hx : p.pages[j]? = some x) (i : Nat) : (bi p).by j i = bif decide (i < p.firsts.length) then decide (el false x = (i : Int)) else decide (el true x = ((i - p.firsts.length : Nat) : Int)) := by
 have hp := pageB_true.1 (h.page j x hx)
 have h1 := hp.fst
 have h2 := hp.snd
 simp only [Net.by, bi, hx]
 rw [Bool.eq_iff_iff]
 by_cases hi : i < p.firsts.length
 ·rw [decide_eq_true hi, cond_true, Bool.or_eq_true, decide_eq_true_eq, decide_eq_true_eq, decide_eq_true_eq]
  show _ ↔ x.fst = (i : Int)
  constructor
  ·rintro (q | q)
   ·by_cases z : 0 ≤ x.fst
    ·rw [decide_eq_true z, cond_true, Option.some.injEq] at q; omega
    ·rw [decide_eq_false z] at q; cases q
   ·by_cases z : 0 ≤ x.snd
    ·rw [decide_eq_true z, cond_true, Option.some.injEq] at q; omega
    ·rw [decide_eq_false z] at q; cases q
  ·intro q
   left
   rw [decide_eq_true (show 0 ≤ x.fst by omega), cond_true, Option.some.injEq]
   omega
 ·rw [decide_eq_false hi, cond_false, Bool.or_eq_true, decide_eq_true_eq, decide_eq_true_eq, decide_eq_true_eq]
  show _ ↔ x.snd = ((i - p.firsts.length : Nat) : Int)
  constructor
  ·rintro (q | q)
   ·by_cases z : 0 ≤ x.fst
    ·rw [decide_eq_true z, cond_true, Option.some.injEq] at q; omega
    ·rw [decide_eq_false z] at q; cases q
   ·by_cases z : 0 ≤ x.snd
    ·rw [decide_eq_true z, cond_true, Option.some.injEq] at q; omega
    ·rw [decide_eq_false z] at q; cases q
  ·intro q
   right
   rw [decide_eq_true (show 0 ≤ x.snd by omega), cond_true, Option.some.injEq]
   omega
theorem umn {p : af} {last : Int} {x : am} (h : ng p last x) : (ey p.text x).length ≤ fl p.text x := by
 unfold ey fl
 rw [← List.countP_eq_length_filter, ← List.countP_eq_length_filter]
 refine List.countP_mono_left fun q _ hq => ?_
 rw [Bool.or_eq_true, decide_eq_true_eq, decide_eq_true_eq] at hq
 rcases hq with hq | hq
 ·exact (m4 h.found hq).2
 ·exact (m4 h.well hq).2
theorem uft {p : af} (h : ez p) (j : Nat) : 0 ≤ cj p j := by
 unfold cj t6
 cases hx : p.pages[j]? with
 | none => exact Int.le_refl _
 | some x =>
  have := umn (pageB_true.1 (h.page j x hx))
  show 0 ≤ mr p.text x
  unfold mr
  omega
end Go.AB
namespace Go.AB
open Go Go.RowKit
open Go.AB.Enc (cells)
/-- the numbers of a set -/
def xb (n s : Nat) : List Nat := (List.range n).filter fun i => s.testBit i
def fb (n s : Nat) : List Int := (xb n s).map fun i : Nat => (i : Int)
theorem udu (n s : Nat) : fb (n + 1) s = fb n s ++ (bif s.testBit n then [(n : Int)] else []) := by
 unfold fb xb
 rw [List.range_succ, List.filter_append, List.map_append]
 cases h : s.testBit n <;> simp [h]
theorem uj (n s : Nat) : (fb n s).length ≤ n := by
 unfold fb xb
 rw [List.length_map]
 have := List.length_filter_le (fun i => s.testBit i) (List.range n)
 rwa [List.length_range] at this
theorem membersL_mem {n s : Nat} {x : Int} : x ∈ fb n s ↔ ∃ i : Nat, x = (i : Int) ∧ i < n ∧ s.testBit i = true := by
 unfold fb xb
 simp only [List.mem_map, List.mem_filter, List.mem_range]
 exact ⟨fun ⟨i, ⟨h1, h2⟩, h3⟩ => ⟨i, h3.symm, h1, h2⟩, fun ⟨i, h3, h1, h2⟩ => ⟨i, ⟨h1, h2⟩, h3.symm⟩⟩
/-- the order of lists: shorter ones first, then by their numbers -/
def i5 (a b : List Int) : Bool := decide (a.length < b.length) || (decide (a.length = b.length) && decide (fg a b < 0))
theorem uf6 {a b : List Int} : i5 a b = true ↔ a.length < b.length ∨ (a.length = b.length ∧ ltW a b) := by
 unfold i5
 rw [Bool.or_eq_true, Bool.and_eq_true, decide_eq_true_eq, decide_eq_true_eq, decide_eq_true_eq]
 constructor
 ·rintro (h | ⟨h1, h2⟩)
  ·exact .inl h
  ·exact .inr ⟨h1, (oe h1).1 h2⟩
 ·rintro (h | ⟨h1, h2⟩)
  ·exact .inl h
  ·exact .inr ⟨h1, (oe h1).2 h2⟩
theorem uf7 (a : List Int) : i5 a a = false := by
 rw [← Bool.not_eq_true, uf6]
 rintro (h | ⟨_, h⟩)
 ·omega
 ·exact py a h
theorem un6 {a b c : List Int} (h : i5 a b = true) (k : i5 b c = true) : i5 a c = true := by
 rw [uf6] at *
 rcases h with h | ⟨h1, h2⟩
 ·rcases k with k | ⟨k1, _⟩
  ·exact .inl (by omega)
  ·exact .inl (by omega)
 ·rcases k with k | ⟨k1, k2⟩
  ·exact .inl (by omega)
  ·exact .inr ⟨by omega, r6 h2 k2⟩
/-- what is found among the first sets -/
def fh (so : Nat → Bool) (n : Nat) : Nat → Option (List Int)
 | 0 => none
 | k + 1 => match fh so n k with
  | none => bif so k then some (fb n k) else none
  | some b => bif so k && i5 (fb n k) b then some (fb n k) else some b
def og (so : Nat → Bool) (n : Nat) : List Int := (fh so n (2 ^ n)).getD []
structure uo7 (so : Nat → Bool) (n k : Nat) (b : List Int) : Prop where
 get : ∃ s, s < k ∧ so s = true ∧ b = fb n s
 min : ∀ s, s < k → so s = true → i5 (fb n s) b = false
theorem x4 (so : Nat → Bool) (n : Nat) : ∀ k, (fh so n k = none ∧ ∀ s, s < k → so s = false) ∨ ∃ b, fh so n k = some b ∧ uo7 so n k b
 | 0 => .inl ⟨rfl, fun s h => absurd h (Nat.not_lt_zero _)⟩
 | k + 1 => by
  rcases x4 so n k with ⟨h1, h2⟩ | ⟨b, h1, h2⟩
  ·simp only [fh, h1]
   cases hs : so k
   ·exact .inl ⟨rfl, fun s h => by
     by_cases e : s = k
     ·subst e; exact hs
     ·exact h2 s (by omega)⟩
   ·exact .inr ⟨_, rfl, ⟨k, by omega, hs, rfl⟩, fun s h hso => by
     by_cases e : s = k
     ·subst e; exact uf7 _
     ·rw [h2 s (by omega)] at hso; cases hso⟩
  ·simp only [fh, h1]
   right
   cases hs : so k && i5 (fb n k) b
   ·refine ⟨b, rfl, ?_, fun s h hso => ?_⟩
    ·obtain ⟨s, q1, q2, q3⟩ := h2.get
     exact ⟨s, by omega, q2, q3⟩
    ·by_cases e : s = k
     ·subst e
      rw [hso, Bool.true_and] at hs
      exact hs
     ·exact h2.min s (by omega) hso
   ·rw [Bool.and_eq_true] at hs
    refine ⟨_, rfl, ⟨k, by omega, hs.1, rfl⟩, fun s h hso => ?_⟩
    by_cases e : s = k
    ·subst e; exact uf7 _
    ·rw [← Bool.not_eq_true]
     intro hb
     have := un6 hb hs.2
     rw [h2.min s (by omega) hso] at this
     cases this
theorem uf4 (so : Nat → Bool) (n : Nat) : (og so n).length ≤ n := by
 unfold og
 rcases x4 so n (2 ^ n) with ⟨h, _⟩ | ⟨b, h, k⟩
 ·rw [h]; exact Nat.zero_le _
 ·rw [h]
  obtain ⟨s, _, _, rfl⟩ := k.get
  exact uj n s
theorem uf3 {so : Nat → Bool} {n k : Nat} (h : fh so n k = none) : fh so n (k + 1) = bif so k then some (fb n k) else none := by simp only [fh, h]
theorem uay {so : Nat → Bool} {n k : Nat} {b : List Int} (h : fh so n k = some b) : fh so n (k + 1) = bif so k && i5 (fb n k) b then some (fb n k) else some b := by simp only [fh, h]
/-! ### Lists of numbers that are looked up -/
def cx (n : Nat) (R : Nat → Int) : List Int := (List.range n).map R
theorem jq (n : Nat) (R : Nat → Int) : (cx n R).length = n := by simp [cx]
theorem nl {n i : Nat} (R : Nat → Int) (h : i < n) : (cx n R)[i]? = some (R i) := by simp [cx, h]
theorem yn (n : Nat) (R : Nat → Int) : cx (n + 1) R = cx n R ++ [R n] := by
 unfold cx
 rw [List.range_succ, List.map_append]; rfl
theorem yo {n i : Nat} (R : Nat → Int) (v : Int) (h : i < n) : (cx n R).set i v = cx n fun k => bif decide (k = i) then v else R k := by
 apply List.ext_getElem?
 intro k
 rw [List.getElem?_set, jq]
 by_cases hk : k < n
 ·rw [nl (fun k => bif decide (k = i) then v else R k) hk, nl R hk]
  by_cases e : i = k
  ·subst e; rw [if_pos rfl, if_pos h, decide_eq_true rfl]; rfl
  ·rw [if_neg e, decide_eq_false (Ne.symm e)]; rfl
 ·rw [List.getElem?_eq_none (by rw [jq]; omega)]
  rw [if_neg (by omega), List.getElem?_eq_none (by rw [jq]; omega)]
end Go.AB
namespace Go.AB
open Go Go.RowKit
open Go.AB.Enc (cells)
open Go.PB (av ai PlaceD az bf ba bl am af co bj)
/-! ### All places are in order -/
theorem uoh (t : ai) : (gn t).Pairwise fun a b => fg (c6 a) (c6 b) < 0 := by
 unfold gn
 rw [List.pairwise_map, List.pairwise_iff_getElem]
 intro i j hi hj hij
 have h1 := List.getElem?_eq_getElem hi
 have h2 := List.getElem?_eq_getElem hj
 have h := uk1 (ugp h1).1 (ugp h2).1
 rw [zm h1 rfl, zm h2 rfl] at h
 rw [oe (by rfl), ← h]
 omega
theorem allQ_mem {t : ai} {q : PlaceD} : q ∈ gn t ↔ fy t q = true := allP_mem
theorem xu {t : ai} (f : PlaceD → Bool) : ((gn t).filter f).Pairwise fun a b => fg (c6 a) (c6 b) < 0 := (uoh t).filter _
/-- places in order, of a text, are those of all places that are among them -/
theorem uih {t : ai} {l : List PlaceD} (h : l.Pairwise fun a b => fg (c6 a) (c6 b) < 0) (hp : ∀ q ∈ l, fy t q = true) : l = (gn t).filter fun q => decide (q ∈ l) :=
 v6 h (xu _) fun q => by
  rw [List.mem_filter, decide_eq_true_eq, allQ_mem]
  exact ⟨fun h => ⟨hp q h, h⟩, fun h => h.2⟩
theorem umu {t : ai} {x : am} {r : Int} {l : List PlaceD} (h : ig t x r l = true) : l = (gn t).filter fun q => decide (q ∈ l) := uih (xr h) fun q hq => (m4 h hq).1
theorem qc {t : ai} {x : am} {r : Int} {l : List PlaceD} (h : ig t x r l = true) : l.length ≤ (gn t).length := by
 rw [umu h]
 exact List.length_filter_le _ _
theorem xn (t : ai) (x : am) : (ey t x).length ≤ (gn t).length := List.length_filter_le _ _
theorem ufz (t : ai) (x : am) : (d9 t x).length ≤ (gn t).length := List.length_filter_le _ _
theorem yf (t : ai) (x : am) : fl t x ≤ (gn t).length := List.length_filter_le _ _
/-! ### How great numbers are -/
theorem yp {g : am → Nat} {m : Nat} : ∀ {l : List am}, (∀ x ∈ l, g x ≤ m) → d7 l g ≤ l.length * m
 | [], _ => by simp [d7]
 | x :: l, h => by
  have h1 := yp (l := l) fun y hy => h y (List.mem_cons_of_mem _ hy)
  have h2 := h x (List.mem_cons_self ..)
  simp only [d7, List.map_cons, List.sum_cons, List.length_cons] at h1 ⊢
  rw [Nat.succ_mul]
  omega
theorem uc1 {p : af} (h : ez p) (b : Bool) (i : Int) : d7 p.pages (gm b i) ≤ 4800 := by
 have hq := rh h.text
 have h1 := yp (l := p.pages) (g := gm b i) (m := 600) fun x hx => by
  obtain ⟨j, hj⟩ := List.getElem?_of_mem hx
  have hp := pageB_true.1 (h.page j x hj)
  unfold gm
  cases decide (el b x = i)
  ·exact Nat.zero_le _
  ·cases b
   ·have := qc hp.found
    show x.found.length ≤ 600
    omega
   ·have := qc hp.well
    show x.well.length ≤ 600
    omega
 have := h.np
 have h2 : p.pages.length * 600 ≤ 8 * 600 := Nat.mul_le_mul_right _ this
 omega
theorem uce {p : af} (h : ez p) (b : Bool) (i : Int) : d7 p.pages (iy p.text b i) ≤ 4800 := by
 have hq := rh h.text
 have h1 := yp (l := p.pages) (g := iy p.text b i) (m := 600) fun x hx => by
  have := xn p.text x
  unfold iy
  cases decide (el b x = i)
  ·exact Nat.zero_le _
  ·show (ey p.text x).length ≤ 600
   omega
 have := h.np
 have h2 : p.pages.length * 600 ≤ 8 * 600 := Nat.mul_le_mul_right _ this
 omega
theorem udq {p : af} (h : ez p) (b : Bool) (i : Nat) : 0 ≤ ke p b i ∧ ke p b i ≤ 90 := by
 unfold ke
 cases hr : (d8 p b)[i]? with
 | none => exact ⟨Int.le_refl _, by show (0 : Int) ≤ 90; omega⟩
 | some r =>
  have hm := List.mem_of_getElem? hr
  have : gq r = true := h.rd r (by
   rw [List.mem_append]
   cases b
   ·exact .inl hm
   ·exact .inr hm)
  unfold gq at this
  rw [Bool.and_eq_true, inB_true, inB_true] at this
  exact this.2
theorem ufv {p : af} (h : ez p) (b : Bool) (i : Nat) : 0 ≤ na p b i ∧ na p b i ≤ 48000 := by
 have h1 := uc1 h b i
 have h2 := udq h b i
 unfold na
 have h3 : (0 : Int) < 100 - ke p b i := by omega
 refine ⟨Int.ediv_nonneg (by omega) (by omega), ?_⟩
 have h4 : 100 * ((d7 p.pages (gm b i) : Nat) : Int) / (100 - ke p b i) ≤ 100 * ((d7 p.pages (gm b i) : Nat) : Int) / 10 := by
  refine Int.le_ediv_of_mul_le (by omega) ?_
  have h5 := Int.ediv_mul_le (100 * ((d7 p.pages (gm b i) : Nat) : Int)) (show (100 - ke p b i) ≠ 0 by omega)
  have h6 : 0 ≤ 100 * ((d7 p.pages (gm b i) : Nat) : Int) / (100 - ke p b i) := Int.ediv_nonneg (by omega) (by omega)
  have h7 : 100 * ((d7 p.pages (gm b i) : Nat) : Int) / (100 - ke p b i) * 10 ≤ 100 * ((d7 p.pages (gm b i) : Nat) : Int) / (100 - ke p b i) * (100 - ke p b i) := Int.mul_le_mul_of_nonneg_left (by omega) h6
  omega
 omega
theorem ud5 {p : af} (h : ez p) (b : Bool) (i : Nat) : -4800 ≤ mo p b i ∧ mo p b i ≤ 48000 := by
 have h1 := ufv h b i
 have h2 := uce h b i
 unfold mo
 omega
theorem ul3 {p : af} (h : ez p) (i : Nat) : -4800 ≤ bv p i ∧ bv p i ≤ 48000 := by
 unfold bv
 cases decide (i < p.firsts.length)
 ·exact ud5 h _ _
 ·exact ud5 h _ _
theorem uns {p : af} (h : ez p) (j : Nat) : 0 ≤ cj p j ∧ cj p j ≤ 600 := by
 refine ⟨uft h j, ?_⟩
 have hq := rh h.text
 unfold cj t6
 cases hx : p.pages[j]? with
 | none => show (0 : Int) ≤ 600; omega
 | some x =>
  have := yf p.text x
  show mr p.text x ≤ 600
  unfold mr
  omega
/-! ### What is told -/
section
def eh (p : af) (n : Int) : Int := bif decide (cm p = 0) then (bif inB n 0 ((p.pages.length : Int) - 1) then 0 else 2) else cm p
def er (p : af) (e : Int) : Int := bif decide (e = 0) then (bif ga p then 0 else 8) else e
def kp (p : af) (b : Bool) (n : Int) : Int := bif decide (cm p = 0) then (bif inB n 0 (((d8 p b).length : Int) - 1) then 0 else 2) else cm p
def jd (p : af) (m : Int) : Int := bif decide (cm p = 0) then (bif decide (m < 0) then 2 else bif ga p then 0 else 8) else cm p
def atE {α : Type} (e : Int) (d v : α) : α := bif decide (e = 0) then v else d
def oy (p : af) (n : Int) : am := (p.pages[n.toNat]?).getD ⟨0, 0, 0, 0, [], []⟩
def qm (p : af) (n : Int) : Int := atE (eh p n) 0 (fl p.text (oy p n) : Int)
def si (p : af) (n : Int) : List PlaceD := atE (eh p n) [] (ey p.text (oy p n))
def sl (p : af) (n : Int) : List PlaceD := atE (eh p n) [] (d9 p.text (oy p n))
def pc (p : af) (b : Bool) (n : Int) : Int := atE (kp p b n) 0 (na p b n.toNat)
def n5 (p : af) (n : Int) : Int := bif decide (eh p n = 0) then (bif decide ((d9 p.text (oy p n)).length = 0) then 6 else 0) else eh p n
def uah (x : am) (k : Nat) : bj := ⟨((x.found.length * x.well.length / k : Nat) : Int), (((x.found.length * x.well.length + k - 1) / k : Nat) : Int)⟩
def o6 (p : af) (n : Int) : bj := atE (n5 p n) ⟨0, 0⟩ (uah (oy p n) (d9 p.text (oy p n)).length)
def ox (p : af) (n : Int) : bj := atE (er p (eh p n)) ⟨0, 0⟩ ⟨0, (bi p).alone (bv p) (cj p) n.toNat⟩
def lm (p : af) : Int := (bi p).most (bv p) (cj p)
def me (p : af) : bj := atE (er p (cm p)) ⟨0, 0⟩ ⟨0, lm p⟩
noncomputable def jo (p : af) : Nat → Int := (bi p).worst (bv p) (cj p)
noncomputable def ql (p : af) : List Int := atE (er p (cm p)) [] (cx p.pages.length (jo p))
def rm (p : af) (s : Nat) : Bool := decide ((bi p).f (bv p) (cj p) (fun i => s.testBit i) = lm p)
def ii (p : af) : List Int := og (rm p) (cc p)
def oo (p : af) (l : List Int) : List Int := l.filter fun k => decide (k < (p.firsts.length : Int))
def nk (p : af) (l : List Int) : List Int := (l.filter fun k => !decide (k < (p.firsts.length : Int))).map fun k => k - (p.firsts.length : Int)
def lk (C : Nat → Int) (l : List Int) (j : Nat) : Int := bif decide ((j : Int) ∈ l) then 0 else C j
def ugq (p : af) (l : List Int) : Int := (bi p).most (bv p) (lk (cj p) l)
def vg (p : af) (m : Int) (s : Nat) : Bool := decide (ugq p (fb p.pages.length s) ≤ m)
def kh (p : af) (m : Int) : List Int := atE (jd p m) [] (og (vg p m) p.pages.length)
end
theorem ug0 (C : Nat → Int) : lk C [] = C := by funext j; simp [lk]
theorem ugz (C : Nat → Int) (l : List Int) (i : Nat) : lk C (l ++ [(i : Int)]) = eo (lk C l) i := by
 funext j
 unfold lk eo
 by_cases e : j = i
 ·subst e; simp
 ·rw [decide_eq_false e, cond_false]
  congr 1
  rw [decide_eq_decide, List.mem_append, List.mem_singleton]
  constructor
  ·rintro (h | h)
   ·exact h
   ·omega
  ·exact .inl
theorem uly (N : Net) (R : Nat → Int) (j : Nat) : N.lessR R j 0 = R := by
 funext i
 unfold Net.lessR
 cases N.by j i <;> simp
theorem uhw {p : af} (h : ga p = true) : ∀ i, i < (bi p).nr → 0 ≤ bv p i := fun i hi => by
 have := List.all_eq_true.1 h i (List.mem_range.2 hi)
 exact of_decide_eq_true this
end Go.AB
namespace Go.AB
open Go Go.RowKit
open Go.AB.Enc (cells)
open Go.PB (av ai PlaceD az bf ba bl am af co bj)
/-! ### Readers who miss less -/
end Go.AB
namespace Go.AB
open Go Go.RowKit
open Go.AB.Enc (cells)
open Go.PB (av ai PlaceD az bf ba bl am af co bj)
def kz (l : List am) (g : am → Int) : Int := (l.map g).sum
theorem zz (x : am) (l : List am) (g : am → Int) : kz (x :: l) g = g x + kz l g := by simp [kz]
theorem ulq (g : am → Int) (l : List am) : sm l.length (fun j => match l[j]? with | some x => g x | none => 0) = kz l g := by
 have key : ∀ k, k ≤ l.length → sm k (fun j => match l[j]? with | some x => g x | none => 0) = kz (l.take k) g := by
  intro k
  induction k with
  | zero => intro _; rfl
  | succ k ih =>
   intro hk
   have hx : l[k]? = some l[k] := List.getElem?_eq_getElem (by omega)
   simp only [sm, hx]
   rw [ih (by omega), List.take_add_one, hx]
   unfold kz
   rw [Option.toList_some, List.map_append, List.sum_append]
   simp
 have := key l.length (Nat.le_refl _)
 rwa [List.take_length] at this
theorem udx (f : am → Bool) (g : am → Int) : ∀ l : List am, kz l g = kz (l.filter f) g + kz (l.filter fun x => !f x) g
 | [] => rfl
 | x :: l => by
  have := udx f g l
  rw [zz, this]
  cases h : f x
  ·rw [List.filter_cons_of_neg (by simp [h]), List.filter_cons_of_pos (by simp [h]), zz]; omega
  ·rw [List.filter_cons_of_pos h, List.filter_cons_of_neg (by simp [h]), zz]; omega
theorem vw (x : am) (l : List am) (g : am → Nat) : d7 (x :: l) g = g x + d7 l g := by simp [d7]
theorem ubm {f : am → Bool} {g : am → Nat} : ∀ {l : List am}, (∀ x ∈ l, f x = false → g x = 0) → d7 (l.filter f) g = d7 l g
 | [], _ => rfl
 | x :: l, h => by
  have ih := ubm (l := l) fun y hy => h y (List.mem_cons_of_mem _ hy)
  cases hx : f x
  ·rw [List.filter_cons_of_neg (by simp [hx]), vw, h x (List.mem_cons_self ..) hx, ih, Nat.zero_add]
  ·rw [List.filter_cons_of_pos hx, vw, vw, ih]
theorem ubl {f : am → Bool} {g : am → Nat} : ∀ {l : List am}, (∀ x ∈ l, f x = true → g x = 0) → d7 (l.filter f) g = 0
 | [], _ => rfl
 | x :: l, h => by
  have ih := ubl (l := l) fun y hy => h y (List.mem_cons_of_mem _ hy)
  cases hx : f x
  ·rw [List.filter_cons_of_neg (by simp [hx]), ih]
  ·rw [List.filter_cons_of_pos hx, vw, h x (List.mem_cons_self ..) hx, ih]
/-- the same readers, fewer pages -/
def dm (p : af) (l : List am) : af := ⟨p.text, p.firsts, p.seconds, l⟩
/-- a page has a reader of a set -/
def bw (p : af) (S : Nat → Bool) (x : am) : Bool := (da p x).any fun k => S k.toNat
theorem umi {p : af} {j : Nat} {x : am} (hx : p.pages[j]? = some x) (S : Nat → Bool) : (bi p).hit S j = bw p S x := ueh hx S
theorem u7 (p : af) (R : Nat → Int) (S : Nat → Bool) : (bi p).f R (cj p) S = sm (cc p) (fun i => bif S i then R i else 0) + kz p.pages (fun x => bif bw p S x then 0 else mr p.text x) := by
 unfold Net.f
 have : sm (bi p).np (fun j => bif (bi p).hit S j then 0 else cj p j) = kz p.pages (fun x => bif bw p S x then 0 else mr p.text x) := by
  rw [← ulq]
  refine mg fun j hj => ?_
  have hx : p.pages[j]? = some p.pages[j] := List.getElem?_eq_getElem hj
  rw [umi hx, hx]
  unfold cj
  rw [wr hx]
 rw [this]; rfl
/-- the readers of no page are both in a set and out of it -/
def pg (p : af) (B : Nat → Bool) : Prop := ∀ x ∈ p.pages, ∀ k ∈ da p x, B k.toNat = bw p B x
def pm (p : af) (b : Bool) (i : Nat) : Nat := bif b then p.firsts.length + i else i
theorem y9 {p : af} {x : am} {b : Bool} {i : Nat} (h : el b x = (i : Int)) : ((pm p b i : Nat) : Int) ∈ da p x := by
 unfold da
 rw [List.mem_append]
 cases b
 ·left
  have h : x.fst = (i : Int) := h
  rw [h, decide_eq_true (by omega)]
  simp [pm]
 ·right
  have h : x.snd = (i : Int) := h
  rw [h, decide_eq_true (by omega)]
  simp [pm]
theorem ud4 {p : af} {B : Nat → Bool} (hB : pg p B) (c : Bool) (b : Bool) (i : Nat) : mo (dm p (p.pages.filter fun x => bw p B x == c)) b i = bif B (pm p b i) == c then mo p b i else 0 := by
 have hrd : ∀ x ∈ p.pages, el b x = (i : Int) → bw p B x = B (pm p b i) := fun x hx h => by
  have := hB x hx _ (y9 h)
  rw [Int.toNat_natCast] at this
  exact this.symm
 have e3 : ke (dm p (p.pages.filter fun x => bw p B x == c)) b i = ke p b i := by cases b <;> rfl
 cases hc : B (pm p b i) == c
 ·have hz : ∀ g : am → Nat, (∀ x, el b x ≠ (i : Int) → g x = 0) → d7 (p.pages.filter fun x => bw p B x == c) g = 0 := fun g hg => ubl fun x hx hf => by
   by_cases e : el b x = (i : Int)
   ·rw [hrd x hx e, hc] at hf; cases hf
   ·exact hg x e
  unfold mo na
  rw [show (dm p (p.pages.filter fun x => bw p B x == c)).pages = p.pages.filter fun x => bw p B x == c from rfl, hz _ (fun x e => by unfold gm; rw [decide_eq_false e]; rfl), hz _ (fun x e => by unfold iy; rw [decide_eq_false e]; rfl)]
  simp
 ·have hz : ∀ g : am → Nat, (∀ x, el b x ≠ (i : Int) → g x = 0) → d7 (p.pages.filter fun x => bw p B x == c) g = d7 p.pages g := fun g hg => ubm fun x hx hf => by
   by_cases e : el b x = (i : Int)
   ·rw [hrd x hx e, hc] at hf; cases hf
   ·exact hg x e
  unfold mo na
  rw [e3, show (dm p (p.pages.filter fun x => bw p B x == c)).pages = p.pages.filter fun x => bw p B x == c from rfl, hz _ (fun x e => by unfold gm; rw [decide_eq_false e]; rfl), hz _ (fun x e => by unfold iy; rw [decide_eq_false e]; rfl)]
  rfl
theorem um {p : af} {B : Nat → Bool} (hB : pg p B) (c : Bool) (i : Nat) : bv (dm p (p.pages.filter fun x => bw p B x == c)) i = bif B i == c then bv p i else 0 := by
 unfold bv
 rw [show (dm p (p.pages.filter fun x => bw p B x == c)).firsts.length = p.firsts.length from rfl, ud4 hB, ud4 hB]
 by_cases hi : i < p.firsts.length
 ·rw [decide_eq_true hi, cond_true, cond_true]; rfl
 ·rw [decide_eq_false hi, cond_false, cond_false, show pm p true (i - p.firsts.length) = i by show p.firsts.length + (i - p.firsts.length) = i; omega]
/-- what readers prove, on the ones and on the others -/
theorem ue2 {p : af} {B : Nat → Bool} (hB : pg p B) (S : Nat → Bool) : (bi p).f (bv p) (cj p) S = (bi (dm p (p.pages.filter fun x => bw p B x == true))).f (bv (dm p (p.pages.filter fun x => bw p B x == true))) (cj (dm p (p.pages.filter fun x => bw p B x == true))) S + (bi (dm p (p.pages.filter fun x => bw p B x == false))).f (bv (dm p (p.pages.filter fun x => bw p B x == false))) (cj (dm p (p.pages.filter fun x => bw p B x == false))) S := by
 rw [u7, u7, u7]
 have e1 : sm (cc p) (fun i => bif S i then bv p i else 0) = sm (cc p) (fun i => bif S i then bv (dm p (p.pages.filter fun x => bw p B x == true)) i else 0) + sm (cc p) (fun i => bif S i then bv (dm p (p.pages.filter fun x => bw p B x == false)) i else 0) := by
  rw [← qn]
  refine mg fun i _ => ?_
  rw [um hB, um hB]
  cases S i <;> cases B i <;> simp
 have e2 := udx (fun x => bw p B x == true) (fun x => bif bw p S x then 0 else mr p.text x) p.pages
 have e3 : (fun x => !(bw p B x == true)) = fun x => bw p B x == false := by funext x; cases bw p B x <;> rfl
 rw [e3] at e2
 rw [e1, e2]
 show _ = sm (cc p) _ + kz (p.pages.filter fun x => bw p B x == true) _ + (sm (cc p) _ + kz (p.pages.filter fun x => bw p B x == false) _)
 have e4 : ∀ c, (fun x => bif bw (dm p (p.pages.filter fun x => bw p B x == c)) S x then 0 else mr (dm p (p.pages.filter fun x => bw p B x == c)).text x) = fun x => bif bw p S x then 0 else mr p.text x := fun c => rfl
 rw [e4, e4]
 omega
/-- only the readers of the ones matter to the ones -/
theorem ue1 {p : af} {B : Nat → Bool} (hB : pg p B) (c : Bool) {S S' : Nat → Bool} (h : ∀ i, B i = c → S i = S' i) : (bi (dm p (p.pages.filter fun x => bw p B x == c))).f (bv (dm p (p.pages.filter fun x => bw p B x == c))) (cj (dm p (p.pages.filter fun x => bw p B x == c))) S = (bi (dm p (p.pages.filter fun x => bw p B x == c))).f (bv (dm p (p.pages.filter fun x => bw p B x == c))) (cj (dm p (p.pages.filter fun x => bw p B x == c))) S' := by
 rw [u7, u7]
 congr 1
 ·refine mg fun i _ => ?_
  rw [um hB]
  cases hc : B i == c
  ·cases S i <;> cases S' i <;> rfl
  ·rw [h i (by simpa using hc)]
 ·unfold kz
  refine congrArg List.sum (List.map_congr_left fun x hx => ?_)
  obtain ⟨h1, h2⟩ := List.mem_filter.1 hx
  have : bw p S x = bw p S' x := by
   unfold bw
   rw [Bool.eq_iff_iff, List.any_eq_true, List.any_eq_true]
   have q : ∀ k ∈ da p x, S k.toNat = S' k.toNat := fun k hk => h _ ((hB x h1 k hk).trans (by simpa using h2))
   exact ⟨fun ⟨k, k1, k2⟩ => ⟨k, k1, (q k k1) ▸ k2⟩, fun ⟨k, k1, k2⟩ => ⟨k, k1, (q k k1).symm ▸ k2⟩⟩
  show (bif bw p S x then 0 else mr p.text x) = bif bw p S' x then 0 else mr p.text x
  rw [this]
theorem ulg {p : af} {B : Nat → Bool} (hB : pg p B) (h : (bi p).Ok) (h1 : (bi (dm p (p.pages.filter fun x => bw p B x == true))).Ok) (h2 : (bi (dm p (p.pages.filter fun x => bw p B x == false))).Ok) : lm p = lm (dm p (p.pages.filter fun x => bw p B x == true)) + lm (dm p (p.pages.filter fun x => bw p B x == false)) := by
 unfold lm
 refine Int.le_antisymm ?_ ?_
 ·obtain ⟨S1, e1⟩ := (bi (dm p (p.pages.filter fun x => bw p B x == true))).most_get (bv (dm p (p.pages.filter fun x => bw p B x == true))) (cj (dm p (p.pages.filter fun x => bw p B x == true)))
  obtain ⟨S2, e2⟩ := (bi (dm p (p.pages.filter fun x => bw p B x == false))).most_get (bv (dm p (p.pages.filter fun x => bw p B x == false))) (cj (dm p (p.pages.filter fun x => bw p B x == false)))
  have := Net.most_le (R := bv p) (C := cj p) h fun i => bif B i then S1 i else S2 i
  rw [ue2 hB] at this
  rw [e1, e2, ue1 hB true (S := S1) (S' := fun i => bif B i then S1 i else S2 i) (fun i hi => by rw [hi]; rfl), ue1 hB false (S := S2) (S' := fun i => bif B i then S1 i else S2 i) (fun i hi => by rw [hi]; rfl)]
  exact this
 ·obtain ⟨S, e⟩ := (bi p).most_get (bv p) (cj p)
  rw [e, ue2 hB]
  have q1 := Net.most_le (R := bv (dm p (p.pages.filter fun x => bw p B x == true))) (C := cj (dm p (p.pages.filter fun x => bw p B x == true))) h1 S
  have q2 := Net.most_le (R := bv (dm p (p.pages.filter fun x => bw p B x == false))) (C := cj (dm p (p.pages.filter fun x => bw p B x == false))) h2 S
  omega
end Go.AB
namespace Go.AB
open Go Go.RowKit
open Go.AB.Enc (cells)
open Go.PB (av ai PlaceD az bf ba bl am af co bj)
end Go.AB
namespace Go.AB
open Go Go.RowKit
open Go.AB.Enc (cells)
open Go.PB (av ai PlaceD az bf ba bl am af co bj)
end Go.AB
namespace Go.AB
open Go Go.RowKit
open Go.AB.Enc (cells)
open Go.PB (av ai PlaceD az bf ba bl am af co bj)
/-- as much as can be on a page, if nothing is lost by it -/
theorem Net.pick_alone {N : Net} {R C : Nat → Int} {j : Nat} (h0 : 0 ≤ N.alone R C j) (h : N.most R C ≤ N.alone R C j + N.most (N.lessR R j (N.alone R C j)) (eo C j)) : N.pick R C j = N.alone R C j :=
 Net.pick_eq ⟨h0, Int.le_refl _, h, fun m h1 h2 => by omega⟩
def nh : ByteArray := ⟨#[116, 104, 101]⟩
def ja : ByteArray := ⟨#[115, 101, 97]⟩
def xIs : ByteArray := ⟨#[105, 115]⟩
def ni : ByteArray := ⟨#[111, 108, 100]⟩
def td : ByteArray := ⟨#[97, 110, 100]⟩
def exTx : ai := [⟨7, [[nh, ja, xIs, ni], [ni, nh, ja]]⟩, ⟨3, [[ja, td, ja]]⟩]
def exPg : List am := [⟨0, 0, 0, 0, [⟨0, 0, 0⟩], [⟨0, 0, 0⟩, ⟨0, 0, 3⟩]⟩, ⟨1, 2, 0, -1, [⟨0, 1, 1⟩], []⟩]
def exPr : af := ⟨exTx, [⟨1, 50⟩, ⟨2, 0⟩], [⟨3, 60⟩], exPg⟩
theorem vn : er exPr (cm exPr) = 0 := by decide +kernel
theorem xp_words : qm exPr 1 = 6 ∧ eh exPr 1 = 0 ∧ qm exPr 0 = 4 ∧ eh exPr 0 = 0 := ⟨by decide +kernel, by decide +kernel, by decide +kernel, by decide +kernel⟩
theorem xp_found : si exPr 0 = [⟨0, 0, 0⟩, ⟨0, 0, 3⟩] ∧ sl exPr 0 = [⟨0, 0, 0⟩] := ⟨by decide +kernel, by decide +kernel⟩
theorem xp_guess : o6 exPr 0 = ⟨2, 2⟩ ∧ n5 exPr 0 = 0 := ⟨by decide +kernel, by decide +kernel⟩
theorem xp_remain : ox exPr 1 = ⟨0, 1⟩ ∧ er exPr (eh exPr 1) = 0 ∧ ox exPr 0 = ⟨0, 1⟩ ∧ er exPr (eh exPr 0) = 0 := ⟨by decide +kernel, by decide +kernel, by decide +kernel, by decide +kernel⟩
theorem ug2 : me exPr = ⟨0, 1⟩ := by decide +kernel
theorem xp_why : oo exPr (ii exPr) = [0] ∧ nk exPr (ii exPr) = [] := ⟨by decide +kernel, by decide +kernel⟩
theorem xp_bound : pc exPr false 0 = 4 ∧ kp exPr false 0 = 0 ∧ pc exPr false 1 = 0 ∧ kp exPr false 1 = 0 ∧ pc exPr true 0 = 5 ∧ kp exPr true 0 = 0 := ⟨by decide +kernel, by decide +kernel, by decide +kernel, by decide +kernel, by decide +kernel, by decide +kernel⟩
theorem xp_chief : kh exPr 0 = [0, 1] ∧ jd exPr 0 = 0 ∧ kh exPr 1 = [] ∧ jd exPr 1 = 0 := ⟨by decide +kernel, by decide +kernel, by decide +kernel, by decide +kernel⟩
theorem ug1 : ql exPr = [1, 0] := by
 have h0 : jo exPr 0 = 1 := by
  have := Net.pick_alone (N := bi exPr) (R := bv exPr) (C := cj exPr) (j := 0) (by decide +kernel) (by decide +kernel)
  exact this.trans (by decide +kernel)
 have h1 : jo exPr 1 = 0 := by
  have e : jo exPr 1 = (bi exPr).pick ((bi exPr).lessR (bv exPr) 0 1) (eo (cj exPr) 0) 1 := by
   show (bi exPr).pick ((bi exPr).lessR (bv exPr) 0 (jo exPr 0)) (eo (cj exPr) 0) 1 = _
   rw [h0]
  have := Net.pick_alone (N := bi exPr) (R := (bi exPr).lessR (bv exPr) 0 1) (C := eo (cj exPr) 0) (j := 1) (by decide +kernel) (by decide +kernel)
  exact e.trans (this.trans (by decide +kernel))
 unfold ql
 rw [vn]
 show [jo exPr 0, jo exPr 1] = _
 rw [h0, h1]
end Go.AB
namespace Go.AB
open Go Go.RowKit
open Go.AB.Enc (cells)
open Go.PB (av ai PlaceD az bf ba bl am af co bj)
/-- who is found by one reader alone, so far -/
def gi (F W : List PlaceD) (q : PlaceD) : Bool := decide (q ∈ F) != decide (q ∈ W)
theorem ukx (F : List PlaceD) (q : PlaceD) : gi F [] q = decide (q ∈ F) := by simp [gi]
theorem yr {l : List PlaceD} (h : l.Pairwise fun a b => fg (c6 a) (c6 b) < 0) : l.Nodup := h.imp fun {a b} hab e => by
 rw [oe (by rfl)] at hab
 subst e
 exact py _ hab
theorem uh4 {l : List PlaceD} (h : l.Nodup) {k : Nat} {q : PlaceD} (hq : l[k]? = some q) : q ∉ l.take k := fun hm => by
 obtain ⟨i, hi⟩ := List.getElem?_of_mem hm
 have hik : i < k := by have := (List.getElem?_eq_some_iff.1 hi).1; rw [List.length_take] at this; omega
 rw [List.getElem?_take_of_lt hik] at hi
 obtain ⟨h1, h2⟩ := List.getElem?_eq_some_iff.1 hi
 obtain ⟨h3, h4⟩ := List.getElem?_eq_some_iff.1 hq
 have := (List.pairwise_iff_getElem.1 h) i k h1 h3 hik
 exact this (h2.trans h4.symm)
/-- the place at hand is in the map if the first reader found it -/
theorem wy {F W : List PlaceD} (hW : W.Nodup) {k : Nat} {q : PlaceD} (hq : W[k]? = some q) : gi F (W.take k) q = decide (q ∈ F) := by
 unfold gi
 rw [decide_eq_false (uh4 hW hq)]
 cases decide (q ∈ F) <;> rfl
theorem uc9 {F W : List PlaceD} (hW : W.Nodup) {k : Nat} {q : PlaceD} (hq : W[k]? = some q) (x : PlaceD) : gi F (W.take (k + 1)) x = bif decide (x = q) then !decide (q ∈ F) else gi F (W.take k) x := by
 have hm : decide (x ∈ W.take (k + 1)) = (decide (x ∈ W.take k) || decide (x = q)) := by
  rw [List.take_add_one, hq, Option.toList_some, Bool.eq_iff_iff]
  simp
 by_cases e : x = q
 ·subst e
  unfold gi
  rw [hm, decide_eq_true (rfl : x = x), Bool.or_true, cond_true]
  cases decide (x ∈ F) <;> rfl
 ·unfold gi
  rw [hm, decide_eq_false e, Bool.or_false, cond_false]
/-- what both found so far -/
def nd (F W : List PlaceD) (k : Nat) : List PlaceD := (W.take k).filter fun q => decide (q ∈ F)
theorem ufx {F W : List PlaceD} {k : Nat} {q : PlaceD} (hq : W[k]? = some q) : nd F W (k + 1) = nd F W k ++ bif decide (q ∈ F) then [q] else [] := by
 unfold nd
 rw [List.take_add_one, hq, Option.toList_some, List.filter_append]
 cases h : decide (q ∈ F) <;> simp [h]
theorem ufy (F W : List PlaceD) (k : Nat) : (nd F W k).length ≤ W.length := by
 unfold nd
 have := List.length_filter_le (fun q => decide (q ∈ F)) (W.take k)
 rw [List.length_take] at this
 omega
theorem uny {p : af} {last : Int} {x : am} (h : ng p last x) : nd x.found x.well x.well.length = d9 p.text x := by
 have hs : (nd x.found x.well x.well.length).Pairwise fun a b => fg (c6 a) (c6 b) < 0 := by
  unfold nd
  rw [List.take_length]
  exact (xr h.well).filter _
 refine v6 hs (xu _) fun q => ?_
 unfold nd
 rw [List.take_length, List.mem_filter, decide_eq_true_eq]
 show _ ↔ q ∈ (gn p.text).filter _
 rw [List.mem_filter, Bool.and_eq_true, decide_eq_true_eq, decide_eq_true_eq, allQ_mem]
 exact ⟨fun ⟨h1, h2⟩ => ⟨(m4 h.well h1).1, h2, h1⟩, fun ⟨_, h2, h3⟩ => ⟨h3, h2⟩⟩
/-- both's places, and those of one alone in any order, put in order: all that are found -/
theorem ugm {p : af} {last : Int} {x : am} (h : ng p last x) {ks s : List PlaceD} (hn : ks.Nodup) (hk : ∀ q, q ∈ ks ↔ gi x.found x.well q = true) (hp : s.Perm (d9 p.text x ++ ks)) (hs : s.Pairwise fun a b => ¬ fg (c6 b) (c6 a) < 0) : s = ey p.text x := by
 have hmb : ∀ q, q ∈ d9 p.text x ↔ q ∈ x.found ∧ q ∈ x.well := fun q => by
  show q ∈ (gn p.text).filter _ ↔ _
  rw [List.mem_filter, Bool.and_eq_true, decide_eq_true_eq, decide_eq_true_eq, allQ_mem]
  exact ⟨fun h => h.2, fun h2 => ⟨(m4 h.well h2.2).1, h2⟩⟩
 have hko : ∀ q, gi x.found x.well q = true ↔ (q ∈ x.found ∧ q ∉ x.well) ∨ (q ∉ x.found ∧ q ∈ x.well) := fun q => by
  unfold gi
  by_cases h1 : q ∈ x.found <;> by_cases h2 : q ∈ x.well <;> simp [h1, h2]
 have hnd : (d9 p.text x ++ ks).Nodup := by
  rw [List.nodup_append]
  refine ⟨yr (xu _), hn, fun a ha b hb e => ?_⟩
  subst e
  have h1 := (hmb a).1 ha
  rcases (hko a).1 ((hk a).1 hb) with h2 | h2
  ·exact h2.2 h1.2
  ·exact h2.1 h1.1
 have hsn : s.Nodup := hp.nodup_iff.2 hnd
 have hs2 : s.Pairwise fun a b => fg (c6 a) (c6 b) < 0 := by
  have := List.Pairwise.and hs hsn
  refine this.imp fun {a b} hab => ?_
  rw [oe (by rfl)] at hab ⊢
  refine Classical.byContradiction fun hno => hab.2 ?_
  exact umd (zy (by rfl) hno hab.1)
 refine v6 hs2 (xu _) fun q => ?_
 rw [hp.mem_iff, List.mem_append, hmb, hk, hko]
 show _ ↔ q ∈ (gn p.text).filter _
 rw [List.mem_filter, Bool.or_eq_true, decide_eq_true_eq, decide_eq_true_eq, allQ_mem]
 constructor
 ·rintro (⟨h1, h2⟩ | ⟨h1, _⟩ | ⟨_, h2⟩)
  ·exact ⟨(m4 h.found h1).1, .inl h1⟩
  ·exact ⟨(m4 h.found h1).1, .inl h1⟩
  ·exact ⟨(m4 h.well h2).1, .inr h2⟩
 ·rintro ⟨_, h1 | h1⟩
  ·by_cases h2 : q ∈ x.well
   ·exact .inl ⟨h1, h2⟩
   ·exact .inr (.inl ⟨h1, h2⟩)
  ·by_cases h2 : q ∈ x.found
   ·exact .inl ⟨h2, h1⟩
   ·exact .inr (.inr ⟨h2, h1⟩)
/-! ### The words of a page, line by line -/
def jp (t : ai) (x : am) (l : List PlaceD) : Nat := (l.filter (ib t x)).length
theorem ube (t : ai) (x : am) {k n : Nat} {c : av} {l : List ByteArray} (hn : c.lines[n]? = some l) : jp t x (iw t k c.lines (n + 1)) = jp t x (iw t k c.lines n) + bif inB ((f5 t k : Int) + (n : Int)) x.fr x.to then l.length else 0 := by
 have e : iw t k c.lines (n + 1) = iw t k c.lines n ++ (k7 k n l).map (·.1) := by
  unfold iw
  rw [ufr k hn, List.map_append, List.append_assoc]
 unfold jp
 rw [e, List.filter_append, List.length_append]
 congr 1
 have hall : ∀ q ∈ (k7 k n l).map (·.1), ib t x q = inB ((f5 t k : Int) + (n : Int)) x.fr x.to := fun q hq => by
  obtain ⟨y, hy, rfl⟩ := List.mem_map.1 hq
  obtain ⟨w, hw, rfl⟩ := List.mem_mapIdx.1 hy
  show inB (qw t ⟨(k : Int), (n : Int), (w : Int)⟩) x.fr x.to = _
  unfold qw
  dsimp only
  rw [Int.toNat_natCast, Int.add_comm]
 have hlen : ((k7 k n l).map (·.1)).length = l.length := by rw [List.length_map]; unfold k7; rw [List.length_mapIdx]
 cases hb : inB ((f5 t k : Int) + (n : Int)) x.fr x.to
 ·rw [List.filter_eq_nil_iff.2 fun q hq => by rw [hall q hq, hb]; simp]; rfl
 ·rw [List.filter_eq_self.2 fun q hq => by rw [hall q hq, hb], hlen]; rfl
theorem uhc (t : ai) (x : am) : jp t x (gn t) = fl t x := rfl
end Go.AB
namespace Go.AB
open Go Go.RowKit
open Go.AB.Enc (cells)
open Go.PB (av ai PlaceD az bf ba bl am af co bj)
section
variable {N : Net} {R C : Nat → Int}
end
end Go.AB
namespace Go.PB
structure dc where
 readers : List Int
 pages : List Int
 read : List (List Int)
/-- the reference's: readers and pages alone -/
structure dg where
 readers : List Int
 pages : List Int
end Go.PB
namespace Go.AB
open Go Go.RowKit
open Go.AB.Enc (cells)
open Go.PB (av ai PlaceD az bf ba bl am af co bj dc dg)
instance : Enc dc := ⟨fun x => [lst x.readers, lst x.pages, lst x.read], 3, fun _ => rfl, fun m x c h => by
 simp only [List.mem_cons, List.not_mem_nil, or_false] at h
 rcases h with rfl | rfl | rfl
 ·exact br m _
 ·exact br m _
 ·exact br m _, fun x c h => by
 simp only [List.mem_cons, List.not_mem_nil, or_false] at h; rcases h with rfl | rfl | rfl <;> rfl⟩
def gh (p : af) (R C : Nat → Int) : dc := ⟨cx (cc p) R, cx p.pages.length C, p.pages.map (da p)⟩
/-- numbers that no sum of takes too far -/
structure Bd (p : af) (R C : Nat → Int) : Prop where
 r : ∀ i, -1000000 ≤ R i ∧ R i ≤ 1000000
 c : ∀ j, 0 ≤ C j ∧ C j ≤ 1000000
 nr : cc p ≤ 6
 np : p.pages.length ≤ 8
theorem ra {p : af} (h : ez p) : Bd p (bv p) (cj p) := ⟨fun i => by have := ul3 h i; omega, fun j => by have := uns h j; omega, by have := h.nf; have := h.ns; unfold cc; omega, h.np⟩
/-- what some first readers of a set have -/
def fR (R : Nat → Int) (S : Nat → Bool) (i : Nat) : Int := sm i fun k => bif S k then R k else 0
def fC (p : af) (C : Nat → Int) (S : Nat → Bool) (j : Nat) : Int := sm j fun k => bif (bi p).hit S k then 0 else C k
theorem ue0 (p : af) (R C : Nat → Int) (S : Nat → Bool) : (bi p).f R C S = fR R S (cc p) + fC p C S p.pages.length := rfl
theorem yu {g : Nat → Int} {m : Int} (h : ∀ i, -m ≤ g i ∧ g i ≤ m) : ∀ n : Nat, -(n * m) ≤ sm n g ∧ sm n g ≤ n * m
 | 0 => by simp [sm]
 | n + 1 => by
  have h1 := yu h n
  have h2 := h n
  have e : ((n + 1 : Nat) : Int) * m = (n : Int) * m + m := by rw [Int.natCast_add, Int.add_mul]; simp
  simp only [sm]
  omega
theorem uam {p : af} {R C : Nat → Int} (h : Bd p R C) (S : Nat → Bool) (i : Nat) (hi : i ≤ cc p) : -6000000 ≤ fR R S i ∧ fR R S i ≤ 6000000 := by
 have := yu (g := fun k => bif S k then R k else 0) (m := 1000000) (fun k => by cases S k; simp; exact h.r k) i
 have := h.nr
 unfold fR
 omega
theorem ue7 {p : af} {R C : Nat → Int} (h : Bd p R C) (S : Nat → Bool) (j : Nat) (hj : j ≤ p.pages.length) : 0 ≤ fC p C S j ∧ fC p C S j ≤ 8000000 := by
 have h1 := yu (g := fun k => bif (bi p).hit S k then 0 else C k) (m := 1000000) (fun k => by have := h.c k; cases (bi p).hit S k; simp; omega; simp) j
 have h2 := uij (n := j) (g := fun k => bif (bi p).hit S k then 0 else C k) fun k _ => by have := h.c k; cases (bi p).hit S k; exact this.1; exact Int.le_refl _
 have := h.np
 unfold fC
 omega
theorem f_bd {p : af} {R C : Nat → Int} (h : Bd p R C) (S : Nat → Bool) : -6000000 ≤ (bi p).f R C S ∧ (bi p).f R C S ≤ 14000000 := by
 have h1 := uam h S _ (Nat.le_refl _)
 have h2 := ue7 h S _ (Nat.le_refl _)
 rw [ue0]
 omega
theorem udt {g : Nat → Int} {a b : Int} (h : ∀ s, a ≤ g s ∧ g s ≤ b) (k : Nat) : a ≤ ml g k ∧ ml g k ≤ b := by
 obtain ⟨s, _, e⟩ := zu (g := g) k
 rw [e]
 exact h s
theorem xa {p : af} {R C : Nat → Int} (h : Bd p R C) : -6000000 ≤ (bi p).most R C ∧ (bi p).most R C ≤ 14000000 := udt (fun s => f_bd h _) _
end Go.AB
namespace Go.AB
open Go Go.RowKit
open Go.AB.Enc (cells)
section
variable {P : Program} {o : Oper} {st : St} {K : St → Prop}
end
end Go.AB
namespace Go.AB
open Go Go.RowKit Go.Shelf Go.Proofs
open Go.AB.Enc (cells)
section
variable {P : Program} {o : Oper} {st : St} {K : St → Prop}
theorem ukp {E : Env} {w : World} {v : Value} {n ver len : Nat} (hp : R E w (.own n ver len) v) : ∃ a cap, v = .slice a len cap ∧ n < E.nx ∧ len ≤ cap ∧ cap ≤ maxLen ∧ ∀ ver' wv val, E.T n = some (ver', wv, val) → ver ≤ ver' ∧ (ver = ver' → ∃ m, len ≤ m ∧ val = .slice a m cap) := by
 cases hp with
 | own h1 h2 h3 h4 => exact ⟨_, _, rfl, h1, h2, h3, h4⟩
/-- append of nothing onto an own slice. -/
theorem ule {t e : TypeId} {sz bytes n ver m : Nat} [AppT P t e sz bytes] {s x : Operand} {tk : Tok} (ho : o.op = .call { callee := .builtin .append, args := #[s, x], argTypes := #[t, t] }) (hs : evC st s = .own n ver m) (hx : evC st x = .list [] tk) : NStep P o st (.own n ver m) := fun E w a hsim => by
 obtain ⟨ht, i, z, hie, hz, h1, h2, h3⟩ := AppT.spec (P := P) (t := t) (e := e) (sz := sz) (bytes := bytes)
 have hown := hs ▸ hsim.ev s
 obtain ⟨ad, cap, e1, q1, q2, q3, q4⟩ := ukp hown
 obtain ⟨ao, c, _, _, e3, _⟩ := (hx ▸ hsim.ev x).list_inv
 refine ⟨a.eval s, hown, fun w' => ?_⟩
 have hrun := tv (P := P) w' t o.type e i ht hie ad ao m cap c q2
 simp only [execOp, ho, resolve, invoke, builtin, Sem.run_bind, Sem.run_pure, Result.andThen_ok, List.map_toArray, List.map_cons, List.map_nil, e1, e3]
 rw [List.length_nil] at *
 rw [hrun]; rfl
/-- append of data onto an own slice. -/
theorem o9 {α : Type} [Enc α] {t e : TypeId} {bytes n ver wv : Nat} [AppT P t e (Enc.n α) bytes] {s x : Operand} {tk : Tok} {rows : List (List C)} {xs : List α} {m : Nat} {cs : List C} (ys : List α) (ho : o.op = .call { callee := .builtin .append, args := #[s, x], argTypes := #[t, t] }) (hs : evC st s = .own n ver m) (hG : st.G n = some (.arr ver wv e (Enc.n α) m cs)) (hc : cs = cr xs) (hm : m = xs.length) (hx : evC st x = .list rows tk) (hy : rows = ys.map cells) (hb : (xs.length + ys.length) * bytes ≤ 140737488355328) (hmax : xs.length + ys.length ≤ 9223372036854775807)
  (h : ∀ v : Nat, K (St.put { st with G := ak st.G n (.arr v wv e (Enc.n α) (xs ++ ys).length (cr (xs ++ ys))) } o.dst (.own n v (xs ++ ys).length))) : EStep P o st K := by
 subst hc; subst hm; subst hy
 by_cases h0 : ys = []
 ·subst h0
  have h1 := h ver
  simp only [List.append_nil] at h1
  have h2 : ak st.G n (.arr ver wv e (Enc.n α) xs.length (cr xs)) = st.G := by
   funext k
   simp only [ak]
   split
   ·rename_i e; rw [e, hG]
   ·rfl
  rw [h2] at h1
  exact SStep.e' (NStep.s (D := fun _ => True) (ule ho hs hx)) h1
 ·refine una ho hs hG hx (mn ys) (by simpa using hb) (by simpa using hmax) (by simpa using h0) ?_
  have h1 := h (ver + 1)
  rw [ueu] at h1
  simpa [cr] using h1
end
end Go.AB
namespace Go.AB
open Go Go.RowKit
open Go.AB.Enc (cells)
open Go.PB (av ai PlaceD az bf ba bl am af co bj dc dg)
/-- the first of some numbers that is not nought -/
def orN (xs : List Int) : Int := (xs.find? fun x => !decide (x = 0)).getD 0
theorem ukr {xs : List Int} {k : Nat} {x : Int} (hx : xs[k]? = some x) (hne : x ≠ 0) (h : ∀ y ∈ xs.take k, y = 0) : orN xs = x := by
 unfold orN
 rw [List.find?_eq_some_iff_append.2 ⟨by simpa using hne, xs.take k, xs.drop (k + 1), ?_, fun y hy => by simp [h y hy]⟩]
 ·rfl
 obtain ⟨h1, h2⟩ := List.getElem?_eq_some_iff.1 hx
 rw [← h2, ← List.drop_eq_getElem_cons h1, List.take_append_drop]
theorem ukt {xs : List Int} (h : ∀ y ∈ xs, y = 0) : orN xs = 0 := by
 unfold orN
 rw [List.find?_eq_none.2 fun y hy => by simp [h y hy]]
 rfl
theorem ulk {α : Type} {l : List α} {k : Nat} {x : α} {p : α → Prop} (hx : l[k]? = some x) (hp : p x) (h : ∀ y ∈ l.take k, p y) : ∀ y ∈ l.take (k + 1), p y := fun y hy => by
 rw [List.take_add_one, hx] at hy
 simp only [Option.toList_some, List.mem_append, List.mem_singleton] at hy
 rcases hy with hy | rfl
 ·exact h y hy
 exact hp
def mi (a b : PlaceD) : Int := fg (c6 a) (c6 b)
theorem uks (a b : PlaceD) : orN [im a.ch b.ch, im a.ln b.ln, im a.wd b.wd] = mi a b := by
 unfold orN mi c6
 simp only [fg]
 by_cases h1 : im a.ch b.ch = 0
 ·by_cases h2 : im a.ln b.ln = 0
  ·by_cases h3 : im a.wd b.wd = 0 <;> simp [h1, h2, h3]
  simp [h1, h2]
 simp [h1]
/-- the order of lists, shorter ones first -/
def yw (a b : List Int) : Int := orN [(a.length : Int) - (b.length : Int), fg a b]
theorem wa (a b : List Int) : decide (yw a b < 0) = i5 a b := by
 unfold yw orN i5
 by_cases h1 : (a.length : Int) - (b.length : Int) = 0
 ·have h2 : a.length = b.length := by omega
  have h3 : ¬ a.length < b.length := by omega
  by_cases h4 : fg a b = 0
  ·simp [h2, h4]
  simp [h2, h4]
 have h2 : ¬ a.length = b.length := by omega
 by_cases h3 : a.length < b.length
 ·have : (a.length : Int) - (b.length : Int) < 0 := by omega
  simp [h1, h2, h3, this]
 have : ¬ (a.length : Int) - (b.length : Int) < 0 := by omega
 simp [h1, h2, h3, this]
def mu (t : ai) (k : Nat) : List Int := (List.range k).map fun i => (f5 t i : Int)
theorem ubq (t : ai) (k : Nat) : (mu t k).length = k := by simp [mu]
theorem ubr {t : ai} {k i : Nat} (h : i < k) : (mu t k)[i]? = some (f5 t i : Int) := by simp [mu, h]
theorem uif (t : ai) (k : Nat) : mu t (k + 1) = mu t k ++ [(f5 t k : Int)] := by
 unfold mu
 rw [List.range_succ, List.map_append]; rfl
theorem vy {t : ai} (ht : dv t = true) (k : Nat) (hk : k ≤ t.length) : f5 t k ≤ 60 := by
 obtain ⟨h1, h2, h3⟩ := mf ht
 have key : ∀ k, k ≤ t.length → f5 t k ≤ 10 * k := by
  intro k
  induction k with
  | zero => intro _; rw [ubs]; exact Nat.zero_le _
  | succ k ih =>
   intro hk
   have hc : t[k]? = some t[k] := List.getElem?_eq_getElem (by omega)
   rw [tm hc]
   have := ih (by omega)
   have := (h3 _ (gd hc)).2.1
   omega
 have := key k hk
 omega
end Go.AB
namespace Go.Proofs.YtbbdginipiljdaaDoor
set_option maxRecDepth 10000
open Go.RowKit Go.AB
open Go.AB.Enc (cells)
open Go.PB (av ai PlaceD az bf ba bl am af co bj dc dg)
theorem uc0 (xs : List Int) : Pure Tryd.prog 87 [lst xs] (.v (.int .i64 (orN xs))) := by
 refine c5 Tryd.func87 rfl (fun m => .v) fun G nx => ?_
 simp only [Tryd.ntmps87, List.length_cons, List.length_nil, Nat.reduceAdd, Nat.reduceSub]
 refine bu fun hlt => ?_
 dsimp only at hlt
 refine lh 0 (fun hf => ?_)
 replace hf := (fit_lst.1 hf).1
 refine yS fun _ K1 => ?_
 refine yR ?_
 refine yA rfl rfl ?_
 refine yN ?_
 dsimp only [St.put]
 refine K1 _ ?_
 refine yS fun _ K2 => ?_
 refine yR ?_
 refine yA rfl rfl ?_
 refine yN ?_
 dsimp only [St.put]
 refine K2 _ ?_
 refine yS fun _ K3 => ?_
 refine yS fun _ K4 => ?_
 refine yR ?_
 refine yM rfl rfl ?_
 refine aa rfl (bp rfl rfl (List.length_map _)) ?_
 refine yM rfl rfl ?_
 refine yN ?_
 dsimp only [St.put]
 refine K4 _ ?_
 refine bk ?_
 refine cp 9 ?_
 refine zQ ?_
 refine dq (G) zX ?_
 dsimp only
 refine dp (X := Nat) (fun k => k ≤ xs.length ∧ ∀ y ∈ xs.take k, y = 0) (fun k => xs.length - k) (fun k => [(4, .any), (5, .any), (8, .v (.int .i64 (k : Int)))]) (fun k G' => G') 0 rfl ?_ ?_ (fun _ _ h => h) ?_ ?_ ?_
 ·exact ⟨by simp, by simp⟩
 ·exact zF
 ·rintro k hI
  exact zL
 ·exact fun _ _ _ _ h => .inl h
 rintro k hI
 dsimp only at hI ⊢
 refine yS fun _ K5 => ?_
 refine yR ?_
 refine aa rfl (cv rfl rfl rfl) ?_
 refine yN ?_
 dsimp only [St.put]
 refine K5 _ ?_
 refine yS fun _ K6 => ?_
 refine ar rfl (fun hc => ?_) (fun hc => ?_)
 ·replace hc := of_decide_eq_true hc
  obtain ⟨x, hx⟩ : ∃ x, xs[k]? = some x := dr (by omega)
  refine ax ?_
  refine K6 _ ?_
  refine yS fun _ K7 => ?_
  refine bk ?_
  refine yS fun _ K8 => ?_
  refine yR ?_
  refine aa rfl (cb rfl rfl rfl rfl (ca (by assumption)) (Enc.len _)) ?_
  refine yL rfl rfl rfl ?_
  refine yA rfl rfl ?_
  refine yN ?_
  dsimp only [St.put]
  refine K8 _ ?_
  refine yS fun _ K9 => ?_
  refine yR ?_
  refine yM rfl rfl ?_
  refine yM rfl rfl ?_
  refine aa rfl (ff rfl rfl rfl) ?_
  refine yN ?_
  dsimp only [St.put]
  refine K9 _ ?_
  refine ar rfl (fun hc => ?_) (fun hc => ?_)
  ·replace hc := j8 hc
   refine yS fun _ K10 => ?_
   refine yR ?_
   refine yM rfl rfl ?_
   refine yA rfl rfl ?_
   refine yN ?_
   dsimp only [St.put]
   refine K10 _ ?_
   refine aq ?_
   refine bh rfl (by constructor) zN zS ?_
   exact vi (ukr hx hc hI.2).symm
  replace hc := ip hc
  refine ax ?_
  refine K7 _ ?_
  refine yR ?_
  refine aa rfl (cg rfl rfl rfl (by omega)) ?_
  refine yM rfl rfl ?_
  refine yN ?_
  dsimp only [St.put]
  exact ⟨k + 1, by omega, ⟨by omega, ulk hx hc hI.2⟩, ⟨⟨rfl, rfl⟩, zF, zB, zN, zX⟩⟩
 try replace hc := of_decide_eq_false hc
 refine dj ?_
 refine K3 _ ?_
 refine yS fun _ K11 => ?_
 refine yR ?_
 refine yM rfl rfl ?_
 refine yA rfl rfl ?_
 refine yN ?_
 dsimp only [St.put]
 refine K11 _ ?_
 refine aq ?_
 refine bh rfl (by constructor) zN zS ?_
 exact vi (by
  rw [ukt]
  have := hI.2
  rwa [gw (by omega)] at this)
theorem ukf (n lo hi : Int) : Pure Tryd.prog 81 [.v (.int .i64 n), .elem [.v (.int .i64 lo)], .elem [.v (.int .i64 hi)]] (.v (.bool (mw n lo hi))) := by
 refine c5 Tryd.func81 rfl (fun m => .v) fun G nx => ?_
 simp only [Tryd.ntmps81, List.length_cons, List.length_nil, Nat.reduceAdd, Nat.reduceSub]
 refine bu fun hlt => ?_
 dsimp only at hlt
 refine yS fun _ K1 => ?_
 refine yR ?_
 refine yA rfl rfl ?_
 refine yN ?_
 dsimp only [St.put]
 refine K1 _ ?_
 refine yS fun _ K2 => ?_
 refine yR ?_
 refine yM rfl rfl ?_
 refine yL rfl rfl rfl ?_
 refine aa rfl (cv rfl rfl rfl) ?_
 refine eg (fun hs => ?_) (fun hs => ?_)
 ·try replace hs := of_decide_eq_true hs
  refine yM rfl rfl ?_
  refine yK rfl ?_
  refine yK rfl ?_
  refine yK rfl ?_
  refine aa rfl (bz rfl rfl (by constructor)) ?_
  refine yA rfl rfl ?_
  refine yN ?_
  dsimp only [St.put]
  refine K2 _ ?_
  refine aq ?_
  refine bh rfl (by constructor) zN zS ?_
  exact vb (by simp [mw, hs]; try omega)
 try replace hs := of_decide_eq_false hs
 refine yM rfl rfl ?_
 refine yM rfl rfl ?_
 refine yL rfl rfl rfl ?_
 refine aa rfl (iq rfl rfl rfl) ?_
 refine aa rfl (ck rfl rfl (by constructor)) ?_
 refine yA rfl rfl ?_
 refine yN ?_
 dsimp only [St.put]
 refine K2 _ ?_
 refine aq ?_
 refine bh rfl (by constructor) zN zS ?_
 exact vb (by simp [mw, hs]; try omega)
theorem nw (lo hi : Int) (xs : List Int) : Pure Tryd.prog 48 [.v (.int .i64 lo), .v (.int .i64 hi), lst xs] (.v (.bool (xj lo hi xs))) := by
 refine c5 Tryd.func48 rfl (fun m => .v) fun G nx => ?_
 simp only [Tryd.ntmps48, List.length_cons, List.length_nil, Nat.reduceAdd, Nat.reduceSub]
 refine bu fun hlt => ?_
 dsimp only at hlt
 refine yS fun _ K1 => ?_
 refine yR ?_
 try dsimp only [St.put]
 refine yB rfl rfl rfl ?_
 try dsimp only [St.put]
 refine yB rfl rfl rfl ?_
 refine yA rfl rfl ?_
 refine yN ?_
 dsimp only [St.put]
 refine K1 _ ?_
 refine yS fun _ K2 => ?_
 refine yR ?_
 refine yM rfl rfl ?_
 refine aa rfl (pu rfl rfl) ?_
 try dsimp only [St.put]
 refine ae rfl (ay rfl rfl rfl (yc xs (fun n => mw n lo hi) _ _ fun x _ => ukf x lo hi) ?_)
 refine aa rfl (eb rfl rfl) ?_
 refine yA rfl rfl ?_
 refine yN ?_
 dsimp only [St.put]
 refine K2 _ ?_
 refine aq ?_
 refine bh rfl (by constructor) zN zS ?_
 rfl
theorem zf (a b : PlaceD) : Pure Tryd.prog 75 [val a, val b] (.v (.int .i64 (mi a b))) := by
 refine c5 Tryd.func75 rfl (fun m => .v) fun G nx => ?_
 simp only [Tryd.ntmps75, List.length_cons, List.length_nil, Nat.reduceAdd, Nat.reduceSub]
 refine bu fun hlt => ?_
 dsimp only at hlt
 refine yS fun _ K1 => ?_
 refine yR ?_
 try dsimp only [St.put]
 refine yB rfl rfl rfl ?_
 try dsimp only [St.put]
 refine yB rfl rfl rfl ?_
 refine yA rfl rfl ?_
 refine yN ?_
 dsimp only [St.put]
 refine K1 _ ?_
 refine yS fun _ K2 => ?_
 refine g8 [(0, none), (1, none), (2, none), (3, none), (5, none), (6, none), (7, none), (8, none), (10, none), (11, none), (12, none), (13, none), (4, none), (9, none), (14, none), (15, none), (16, none), (17, none)] (fun i => [14, 15, 16].contains i) (fun i => [4, 9, 14, 15, 16].contains i) (fun i => [0, 2, 5, 7, 10, 12, 17].contains i) [] (by kernel_rfl) (by kernel_rfl) ?_
 refine ah rfl rfl rfl rfl (ce rfl rfl rfl) ?_
 try dsimp only [St.put]
 refine aw rfl rfl rfl rfl (bq rfl rfl) ?_
 refine ah rfl rfl rfl rfl (ce rfl rfl rfl) ?_
 try dsimp only [St.put]
 refine aw rfl rfl rfl rfl (bq rfl rfl) ?_
 refine ah rfl rfl rfl rfl (ce rfl rfl rfl) ?_
 try dsimp only [St.put]
 refine aw rfl rfl rfl rfl (bq rfl rfl) ?_
 refine ah rfl rfl rfl rfl (ce rfl rfl rfl) ?_
 try dsimp only [St.put]
 refine aw rfl rfl rfl rfl (bq rfl rfl) ?_
 refine ah rfl rfl rfl rfl (ce rfl rfl rfl) ?_
 try dsimp only [St.put]
 refine aw rfl rfl rfl rfl (bq rfl rfl) ?_
 refine ah rfl rfl rfl rfl (ce rfl rfl rfl) ?_
 try dsimp only [St.put]
 refine aw rfl rfl rfl rfl (bq rfl rfl) ?_
 refine jf ?_
 try dsimp only [St.put]
 refine i9 rfl rfl rfl (ay rfl rfl rfl (xy _ _) ⟨zD, ?_⟩)
 try dsimp only [St.put]
 refine i9 rfl rfl rfl (ay rfl rfl rfl (xy _ _) ⟨zD, ?_⟩)
 try dsimp only [St.put]
 refine g9 rfl rfl rfl rfl (ay rfl rfl rfl (xy _ _) ?_)
 try dsimp only [St.put]
 refine g9 rfl rfl rfl rfl (du rfl rfl rfl (by decide) (by decide) zR (by decide) ?_)
 try dsimp only [St.put]
 refine g9 rfl rfl rfl rfl (ay rfl rfl rfl (uc0 [im a.ch b.ch, im a.ln b.ln, im a.wd b.wd]) ?_)
 refine ed rfl rfl rfl rfl (cz rfl (by constructor)) ?_
 refine je ?_
 dsimp only [St.put]
 refine K2 _ ?_
 refine aq ?_
 refine bh rfl (by constructor) zN zS ?_
 exact vi (uks a b)
theorem ukb (a b : List Int) (ha : a.length ≤ 1000) (hb : b.length ≤ 1000) : Pure Tryd.prog 59 [lst a, lst b] (.v (.int .i64 (yw a b))) := by
 refine c5 Tryd.func59 rfl (fun m => .v) fun G nx => ?_
 simp only [Tryd.ntmps59, List.length_cons, List.length_nil, Nat.reduceAdd, Nat.reduceSub]
 refine bu fun hlt => ?_
 dsimp only at hlt
 refine yS fun _ K1 => ?_
 refine yR ?_
 refine yA rfl rfl ?_
 refine yN ?_
 dsimp only [St.put]
 refine K1 _ ?_
 refine yS fun _ K2 => ?_
 refine yR ?_
 refine yM rfl rfl ?_
 refine aa rfl (bp rfl rfl (List.length_map _)) ?_
 refine yM rfl rfl ?_
 refine aa rfl (bp rfl rfl (List.length_map _)) ?_
 refine aa rfl (i0 rfl rfl rfl (by omega)) ?_
 refine yM rfl rfl ?_
 refine yM rfl rfl ?_
 try dsimp only [St.put]
 refine ae rfl (ay rfl rfl rfl (ung a b ha hb) ?_)
 try dsimp only [St.put]
 refine ae rfl (du rfl rfl rfl (by decide) (by decide) zR (by decide) ?_)
 try dsimp only [St.put]
 refine ae rfl (ay rfl rfl rfl (uc0 [(a.length : Int) - (b.length : Int), fg a b]) ?_)
 refine yA rfl rfl ?_
 refine yN ?_
 dsimp only [St.put]
 refine K2 _ ?_
 refine aq ?_
 refine bh rfl (by constructor) zN zS ?_
 rfl
theorem uka (t : ai) (q : PlaceD) (ht : dv t = true) : Pure Tryd.prog 74 [gu t, val q] (.v (.bool (fy t q))) := by
 refine c5 Tryd.func74 rfl (fun m => .v) fun G nx => ?_
 simp only [Tryd.ntmps74, List.length_cons, List.length_nil, Nat.reduceAdd, Nat.reduceSub]
 refine bu fun hlt => ?_
 dsimp only at hlt
 obtain ⟨hl1, hl2, hl3⟩ := mf ht
 refine yS fun _ K1 => ?_
 refine yR ?_
 try dsimp only [St.put]
 refine yB rfl rfl rfl ?_
 try dsimp only [St.put]
 refine yB rfl rfl rfl ?_
 refine yA rfl rfl ?_
 refine yN ?_
 dsimp only [St.put]
 refine K1 _ ?_
 refine yS fun _ K2 => ?_
 refine cp 5 ?_
 refine zQ ?_
 refine kj (X := Bool) (fun b => b = !(gz t (q.ch, q.ln)).isSome) (fun b => [(29, .v (.bool b))]) (fun b G' => G') rfl ?_ (fun _ _ _ _ h => .inl h) ?_ ?_
 ·rintro b hI
  exact zL
 ·refine qi [(0, none), (1, none), (2, none), (3, none), (4, none), (5, none)] (fun _ => false) (fun i => [0, 2, 3, 4].contains i) 19 (rl [6, 19]) (by kernel_rfl) (by kernel_rfl) ?_
  refine ah rfl rfl rfl rfl (ce rfl rfl rfl) ?_
  try dsimp only [St.put]
  refine aw rfl rfl rfl rfl (bq rfl rfl) ?_
  refine ah rfl rfl rfl rfl (bp rfl rfl (List.length_map _)) ?_
  refine ah rfl rfl rfl rfl (i0 rfl rfl rfl (by omega)) ?_
  refine ah rfl rfl rfl rfl (ce rfl rfl rfl) ?_
  try dsimp only [St.put]
  refine aw rfl rfl rfl rfl (bq rfl rfl) ?_
  refine cn ?_
  refine c7 [6] (by kernel_rfl) (by simp) ?_
  refine dz ?_ ?_
  ·try dsimp only [St.put]
   refine gk rfl rfl rfl (du rfl rfl rfl (by decide) (by decide) zR (by decide) ?_)
   refine c7 [7] (by kernel_rfl) (by simp) ?_
   refine dz ?_ ?_
   ·try dsimp only [St.put]
    refine gk rfl rfl rfl (ay rfl rfl rfl (nw _ _ [_]) ?_)
    refine ep [(8, none), (9, none), (10, none), (11, none), (12, none), (13, none), (14, none), (15, none), (16, none), (17, none), (18, none), (19, none), (20, none)] (fun i => [8, 9, 10, 12, 14, 15, 17, 18, 19].contains i) 4 (rl [21, 4]) (by kernel_rfl) ?_
    refine ah rfl rfl rfl rfl (eb rfl rfl) ?_
    refine xM rfl rfl rfl rfl rfl ?_
    refine j6 (fun hs => ?_) (fun hs => ?_)
    ·have h8 : inB q.ch 0 ((t.length : Int) - 1) = false := by rw [gj] at hs; simpa using hs
     refine aj rfl rfl rfl ?_
     refine aj rfl rfl rfl ?_
     refine aj rfl rfl rfl ?_
     refine aj rfl rfl rfl ?_
     refine aj rfl rfl rfl ?_
     refine aj rfl rfl rfl ?_
     refine aj rfl rfl rfl ?_
     refine aj rfl rfl rfl ?_
     refine aj rfl rfl rfl ?_
     refine aj rfl rfl rfl ?_
     refine aj rfl rfl rfl ?_
     refine cn ?_
     refine c7 [21] (by kernel_rfl) (by simp) ?_
     refine dz ?_ ?_
     ·refine ge rfl rfl rfl ?_
      refine c7 [22] (by kernel_rfl) (by simp) ?_
      refine dz ?_ ?_
      ·refine ge rfl rfl rfl ?_
       refine ep [(23, none), (24, none)] (fun i => [23, 24].contains i) 0 (rl [25]) (by kernel_rfl) ?_
       refine aj rfl rfl rfl ?_
       refine ah rfl rfl rfl rfl (bz rfl rfl (by constructor)) ?_
       refine cn ?_
       dsimp only [St.put]
       refine ia (by kernel_rfl) ?_
       refine ⟨_, ?_, ⟨⟨rfl, rfl⟩, zF, zB, zN, zX⟩⟩
       rw [vt]
       (simp [h8]; done)
      exact dx
     exact dx
    have h8 : inB q.ch 0 ((t.length : Int) - 1) = true := by rw [gj] at hs; simpa using hs
    have hn1' := h8
    simp only [inB_true] at hn1'
    obtain ⟨c, hcx⟩ : ∃ c, t[q.ch.toNat]? = some c := dr (by omega)
    have hnl : ly t q.ch = c.lines.length := by simp [ly, hcx]
    have hll := (hl3 c (gd hcx)).2.1
    have hch : q.ch = ((q.ch.toNat : Nat) : Int) := by omega
    refine ah rfl rfl rfl rfl (ce rfl rfl rfl) ?_
    try dsimp only [St.put]
    refine aw rfl rfl rfl rfl (bq rfl rfl) ?_
    refine ah rfl rfl rfl rfl (ce rfl rfl rfl) ?_
    try dsimp only [St.put]
    refine aw rfl rfl rfl rfl (bq rfl rfl) ?_
    try dsimp only [St.put]
    refine ah rfl rfl rfl rfl (cb rfl rfl rfl (by omega) (ca (by assumption)) (Enc.len _)) ?_
    refine ah rfl rfl rfl rfl (ce rfl rfl rfl) ?_
    try dsimp only [St.put]
    refine aw rfl rfl rfl rfl (bq rfl rfl) ?_
    refine ah rfl rfl rfl rfl (bp rfl rfl (List.length_map _)) ?_
    refine ah rfl rfl rfl rfl (i0 rfl rfl rfl (by omega)) ?_
    refine ah rfl rfl rfl rfl (ce rfl rfl rfl) ?_
    try dsimp only [St.put]
    refine aw rfl rfl rfl rfl (bq rfl rfl) ?_
    refine cn ?_
    refine c7 [21] (by kernel_rfl) (by simp) ?_
    refine dz ?_ ?_
    ·try dsimp only [St.put]
     refine gk rfl rfl rfl (du rfl rfl rfl (by decide) (by decide) zR (by decide) ?_)
     refine c7 [22] (by kernel_rfl) (by simp) ?_
     refine dz ?_ ?_
     ·try dsimp only [St.put]
      refine gk rfl rfl rfl (ay rfl rfl rfl (nw _ _ [_]) ?_)
      refine ep [(23, none), (24, none)] (fun i => [23, 24].contains i) 0 (rl [25]) (by kernel_rfl) ?_
      refine ah rfl rfl rfl rfl (eb rfl rfl) ?_
      refine ah rfl rfl rfl rfl (ck rfl rfl (by constructor)) ?_
      refine cn ?_
      dsimp only [St.put]
      refine ia (by kernel_rfl) ?_
      refine ⟨_, ?_, ⟨⟨rfl, rfl⟩, zF, zB, zN, zX⟩⟩
      rw [vt]
      (simp [h8, hnl, gj]; done)
     exact dx
    exact dx
   exact dx
  exact dx
 rintro b hst
 dsimp only at hst ⊢
 refine ar rfl (fun hc => ?_) (fun hc => ?_)
 ·have hw : gz t (q.ch, q.ln) = none := by rw [hc] at hst; simpa using hst.symm
  refine yS fun _ K4 => ?_
  refine yR ?_
  refine yA rfl rfl ?_
  refine yN ?_
  dsimp only [St.put]
  refine K4 _ ?_
  refine aq ?_
  refine bh rfl (by constructor) zN zS ?_
  exact vb (by unfold fy; rw [hw])
 have hw0 : (gz t (q.ch, q.ln)).isSome = true := by rw [hc] at hst; simpa using hst.symm
 obtain ⟨l, hw⟩ := Option.isSome_iff_exists.1 hw0
 obtain ⟨k, n, c, hkn, hk, hn⟩ := tf hw
 have hch : q.ch = ((k : Nat) : Int) := congrArg Prod.fst hkn
 have hln : q.ln = ((n : Nat) : Int) := congrArg Prod.snd hkn
 have hwl := vr ht hw
 refine ax ?_
 refine K2 _ ?_
 refine yS fun _ K5 => ?_
 refine g8 [(0, none), (1, none), (2, none), (3, none), (4, none), (5, none), (6, none), (7, none), (8, none), (9, none), (10, none), (11, none), (12, none), (13, none), (14, none), (15, none), (16, none), (17, none)] (fun i => [16].contains i) (fun i => [15, 16].contains i) (fun i => [0, 2, 4, 5, 7, 9, 11, 12, 13, 17].contains i) [] (by kernel_rfl) (by kernel_rfl) ?_
 refine ah rfl rfl rfl rfl (ce rfl rfl rfl) ?_
 try dsimp only [St.put]
 refine aw rfl rfl rfl rfl (bq rfl rfl) ?_
 refine ah rfl rfl rfl rfl (ce rfl rfl rfl) ?_
 try dsimp only [St.put]
 refine aw rfl rfl rfl rfl (bq rfl rfl) ?_
 try dsimp only [St.put]
 refine ah rfl rfl rfl rfl (cb rfl rfl rfl (by omega) (ca (by assumption)) (Enc.len _)) ?_
 refine ah rfl rfl rfl rfl (ce rfl rfl rfl) ?_
 try dsimp only [St.put]
 refine aw rfl rfl rfl rfl (bq rfl rfl) ?_
 refine ah rfl rfl rfl rfl (ce rfl rfl rfl) ?_
 try dsimp only [St.put]
 refine aw rfl rfl rfl rfl (bq rfl rfl) ?_
 try dsimp only [St.put]
 refine ah rfl rfl rfl rfl (cb rfl rfl rfl (by omega) (ca (by assumption)) (Enc.len _)) ?_
 try dsimp only [St.put]
 refine aw rfl rfl rfl rfl (bq rfl rfl) ?_
 refine ah rfl rfl rfl rfl (bp rfl rfl (List.length_map _)) ?_
 refine ah rfl rfl rfl rfl (i0 rfl rfl rfl (by omega)) ?_
 refine ah rfl rfl rfl rfl (ce rfl rfl rfl) ?_
 try dsimp only [St.put]
 refine aw rfl rfl rfl rfl (bq rfl rfl) ?_
 refine jf ?_
 try dsimp only [St.put]
 refine i9 rfl rfl rfl (du rfl rfl rfl (by decide) (by decide) zR (by decide) ⟨zD, ?_⟩)
 try dsimp only [St.put]
 refine g9 rfl rfl rfl rfl (ay rfl rfl rfl (nw _ _ [_]) ?_)
 refine ed rfl rfl rfl rfl (cz rfl (by constructor)) ?_
 refine je ?_
 dsimp only [St.put]
 refine K5 _ ?_
 refine aq ?_
 refine bh rfl (by constructor) zN zS ?_
 exact vb (by unfold fy; rw [hw, gj])
theorem uke (t : ai) (ht : dv t = true) : Pure Tryd.prog 73 [gu t] (.tup [lst (mu t t.length), .v (.int .i64 (mx t : Int))]) := by
 refine c5 Tryd.func73 rfl (fun m => .tup (ci (br _ _) (ci .v dh))) fun G nx => ?_
 simp only [Tryd.ntmps73, List.length_cons, List.length_nil, Nat.reduceAdd, Nat.reduceSub]
 refine bu fun hlt => ?_
 dsimp only at hlt
 obtain ⟨hl1, hl2, hl3⟩ := mf ht
 refine yS fun _ K1 => ?_
 refine yR ?_
 try dsimp only [St.put]
 refine yB rfl rfl rfl ?_
 refine yA rfl rfl ?_
 refine yA rfl rfl ?_
 refine yN ?_
 dsimp only [St.put]
 refine K1 _ ?_
 refine yS fun _ K2 => ?_
 refine yR ?_
 refine yA rfl rfl ?_
 refine yN ?_
 dsimp only [St.put]
 refine K2 _ ?_
 refine re 4 3 1 rfl (by decide) ?_
 dsimp only [List.set_cons_zero, List.set_cons_succ]
 refine yS fun _ K3 => ?_
 refine yR ?_
 refine yA rfl rfl ?_
 refine yN ?_
 dsimp only [St.put]
 refine K3 _ ?_
 refine yS fun _ K4 => ?_
 refine yS fun _ K5 => ?_
 refine yR ?_
 refine yF rfl rfl rfl rfl ?_
 refine yL rfl rfl rfl ?_
 refine aa rfl (bp rfl rfl (List.length_map _)) ?_
 refine yM rfl rfl ?_
 refine yN ?_
 dsimp only [St.put]
 refine K5 _ ?_
 refine bk ?_
 refine cp 12 ?_
 refine zQ ?_
 refine dq (ak G nx (.tip 0 3 1)) zX ?_
 dsimp only
 refine dp (X := Nat) (fun k => k ≤ t.length) (fun k => t.length - k) (fun k => [(4, .list ((mu t k).map cells) (.tip nx)), (5, .v (.int .i64 (f5 t k : Int))), (7, .any), (11, .v (.int .i64 (k : Int)))]) (fun k G' => ak G nx (.tip (mu t k).length 3 1)) 0 rfl ?_ ?_ ?_ ?_ ?_ ?_
 ·exact Nat.zero_le _
 ·exact zF
 ·exact zX
 ·rintro k hI
  exact zL
 ·rintro k hI
  exact zH
 rintro k hI
 dsimp only at hI ⊢
 refine yS fun _ K6 => ?_
 refine yR ?_
 refine aa rfl (cv rfl rfl rfl) ?_
 refine yN ?_
 dsimp only [St.put]
 refine K6 _ ?_
 refine yS fun _ K7 => ?_
 refine ar rfl (fun hc => ?_) (fun hc => ?_)
 ·replace hc := of_decide_eq_true hc
  obtain ⟨c, hcx⟩ : ∃ c, t[k]? = some c := dr (by omega)
  have hll := (hl3 c (gd hcx)).2.1
  have hsl := vy ht k (by omega)
  have hst : ((f5 t (k + 1) : Nat) : Int) = (f5 t k : Int) + (c.lines.length : Int) := by rw [tm hcx]; omega
  have hln := ubq t k
  refine ax ?_
  refine K7 _ ?_
  refine yS fun _ K8 => ?_
  refine bk ?_
  refine yS fun _ K9 => ?_
  refine yR ?_
  refine aa rfl (cb rfl rfl rfl rfl (ca (by assumption)) (Enc.len _)) ?_
  refine yE rfl rfl rfl ?_
  try dsimp only [St.put]
  refine ae rfl (dd rfl ?_)
  try dsimp only [St.put]
  refine ae rfl (cw rfl rfl rfl zG rfl rfl (by rfl) ?_)
  refine yN ?_
  dsimp only [St.put]
  refine K9 _ ?_
  refine fj (i := 7) rfl zG zC ?_
  dsimp only
  refine yS fun _ K10 => ?_
  refine yR ?_
  refine yM rfl rfl ?_
  refine yM rfl rfl ?_
  try dsimp only [St.put]
  refine ae rfl (du rfl rfl rfl (by decide) (by decide) zR (by decide) ?_)
  try dsimp only [St.put]
  refine ae rfl (jz ([(f5 t k : Int)]) rfl rfl zG zE rfl rfl zA ?_ zA)
  refine yA rfl rfl ?_
  refine yN ?_
  dsimp only [St.put]
  refine K10 _ ?_
  refine yR ?_
  refine yM rfl rfl ?_
  refine yF rfl rfl rfl rfl ?_
  refine yL rfl rfl rfl ?_
  refine aa rfl (bp rfl rfl (List.length_map _)) ?_
  refine aa rfl (cg rfl rfl rfl (by omega)) ?_
  refine yA rfl rfl ?_
  refine yN ?_
  dsimp only [St.put]
  refine K8 _ ?_
  refine yR ?_
  refine aa rfl (cg rfl rfl rfl (by omega)) ?_
  refine yM rfl rfl ?_
  refine yN ?_
  dsimp only [St.put]
  rw [← hst]
  simp only [← uif]
  exact ⟨k + 1, by omega, by omega, ⟨⟨rfl, rfl⟩, zF, zB, zN, zX⟩⟩
 replace hc := of_decide_eq_false hc
 obtain rfl : k = t.length := by omega
 refine dj ?_
 refine K4 _ ?_
 refine yS fun _ K11 => ?_
 refine yR ?_
 refine yM rfl rfl ?_
 refine yM rfl rfl ?_
 refine yA rfl rfl ?_
 refine yA rfl rfl ?_
 refine yN ?_
 dsimp only [St.put]
 refine K11 _ ?_
 refine aq ?_
 refine ij rfl (ef (by constructor)) (ef (by constructor)) zN zS ?_ ?_
 ·exact zW
 exact Wk.of_eq (vi rfl)
end Go.Proofs.YtbbdginipiljdaaDoor
namespace Go.AB
open Go Go.RowKit Go.ChangeShapes Go.WideShapes
open Go.AB.Enc (cells)
open Go.PB (av ai PlaceD az bf ba)
/-- What is read along a type is a datum. -/
class OpensE (P : Program) (t : TypeId) (α : Type) [Enc α] : Prop where
 n : P.cellsOf t = Enc.n α
 op : ∀ {H : Type} {enc : TypeId × Value → H} {w : World} {base : Nat} {spare : Nat → Bool} {held : Bool} {fuel : Nat} {cs : List Value} {x : DataW H × List MemPlace}, DataW.trod enc P w base spare held fuel t cs = some x → ∃ a : α, Rs (j5 w) w (cells a) cs
def uu (P : Program) (t : TypeId) (k : IntKind) : Bool := match P.underlying t with | some (.int k') => k' == k && P.cellsOf t == 1 | _ => false
def yq (P : Program) (t : TypeId) : Bool := match P.underlying t with | some .string => P.cellsOf t == 1 | _ => false
def yv (P : Program) (t e : TypeId) : Bool := match P.underlying t with | some (.slice e') => e' == e && P.cellsOf t == 1 | _ => false
def jr (P : Program) (t : TypeId) (l : List (Nat × TypeId × Nat)) (n : Nat) : Bool := match P.underlying t with
 | some (.struct fs) => (fs.toList.map fun f => (f.offset, f.type, P.cellsOf f.type)) == l && P.cellsOf t == n
 | _ => false
theorem wfI64 {n : Int} (h : (Lit.int .i64 n).wf = true) : okV (.int .i64 n) = true := by
 simp [Lit.wf, IntKind.min, IntKind.max, IntKind.signed, IntKind.bits] at h
 exact kr ⟨by omega, by omega⟩
theorem wfU8 {n : Int} (h : (Lit.int .u8 n).wf = true) : okV (.int .u8 n) = true := by
 simp [Lit.wf, IntKind.min, IntKind.max, IntKind.signed, IntKind.bits] at h
 exact zk ⟨by omega, by omega⟩
section
variable {P : Program} {t e : TypeId}
theorem uab {k : IntKind} (h : uu P t k = true) : P.underlying t = some (.int k) ∧ P.cellsOf t = 1 := by
 unfold uu at h
 split at h
 ·rename_i k' he
  simp only [Bool.and_eq_true, beq_iff_eq] at h
  rw [he, h.1]; exact ⟨rfl, h.2⟩
 ·cases h
theorem ubo (h : yq P t = true) : P.underlying t = some .string ∧ P.cellsOf t = 1 := by
 unfold yq at h
 split at h
 ·rename_i he; exact ⟨he, by simpa using h⟩
 ·cases h
theorem ubv (h : yv P t e = true) : P.underlying t = some (.slice e) ∧ P.cellsOf t = 1 := by
 unfold yv at h
 split at h
 ·rename_i k' he
  simp only [Bool.and_eq_true, beq_iff_eq] at h
  rw [he, h.1]; exact ⟨rfl, h.2⟩
 ·cases h
theorem Rs.single {E : Env} {w : World} {c : C} {v : Value} (h : R E w c v) : Rs E w [c] [v] := Rs.cons h Rs.nil
theorem Rs.single_inv {E : Env} {w : World} {c : C} {v : Value} (h : Rs E w [c] [v]) : R E w c v := h.2 0 c v rfl rfl
theorem OpensE.int (h : uu P t .i64 = true) : OpensE P t Int where
 n := (uab h).2
 op hx := by
  obtain ⟨n, rfl, _, h2⟩ := DataW.trod_int (uab h).1 hx
  exact ⟨n, Rs.single (.v (wfI64 h2))⟩
theorem OpensE.str (h : yq P t = true) : OpensE P t ByteArray where
 n := (ubo h).2
 op hx := by
  obtain ⟨s, rfl, _, h2⟩ := DataW.trod_string (ubo h).1 hx
  exact ⟨s, Rs.single (.v (okV_str.2 (by simpa [maxLen] using h2)))⟩
theorem uig {w : World} {a : Addr} {v : Value} (h : w.cell? a = some v) : a.spot = none := by
 unfold World.cell? at h
 split at h
 ·split at h
  ·cases h
  ·rename_i hs
   cases hsp : a.spot with
   | none => rfl
   | some s => simp [hsp] at hs
 ·cases h
theorem ud1 {α : Type} {p : Nat → α → Prop} : ∀ (n : Nat), (∀ i, i < n → ∃ x, p i x) → ∃ xs : List α, xs.length = n ∧ ∀ i x, xs[i]? = some x → p i x
 | 0, _ => ⟨[], rfl, fun i x h => by simp at h⟩
 | n + 1, h => by
  obtain ⟨xs, h1, h2⟩ := ud1 n fun i hi => h i (by omega)
  obtain ⟨y, hy⟩ := h n (by omega)
  refine ⟨xs ++ [y], by simp [h1], fun i x hx => ?_⟩
  by_cases hi : i < xs.length
  ·rw [List.getElem?_append_left hi] at hx; exact h2 i x hx
  ·rw [List.getElem?_append_right (by omega)] at hx
   have hz : i - xs.length = 0 := by
    have := (List.getElem?_eq_some_iff.1 hx).1
    simp at this; omega
   rw [hz] at hx
   simp at hx
   subst hx
   rw [show i = n by omega]; exact hy
theorem ub9 {α : Type} [Enc α] {E : Env} {w : World} {b : Nat} : ∀ (xs : List α) (off : Nat), (∀ i x, xs[i]? = some x → ∃ es, Rs E w (cells x) es ∧ ∀ j e, es[j]? = some e → w.cell? ⟨b, off + i * Enc.n α + j, none⟩ = some e) →
  ∃ us, Rs E w (xs.map cells).flatten us ∧ ∀ j u, us[j]? = some u → w.cell? ⟨b, off + j, none⟩ = some u
 | [], off, _ => ⟨[], Rs.nil, by simp⟩
 | x :: xs, off, h => by
  obtain ⟨es, h1, h2⟩ := h 0 x rfl
  obtain ⟨us, h3, h4⟩ := ub9 xs (off + Enc.n α) fun i y hy => by
   obtain ⟨fs, k1, k2⟩ := h (i + 1) y (by simpa using hy)
   exact ⟨fs, k1, fun j e he => by rw [← k2 j e he]; congr 2; rw [Nat.add_mul]; omega⟩
  have hl : es.length = Enc.n α := by rw [h1.1]; exact Enc.len x
  refine ⟨es ++ us, by rw [List.map_cons, List.flatten_cons]; exact h1.append h3, fun j u hu => ?_⟩
  by_cases hj : j < es.length
  ·rw [List.getElem?_append_left hj] at hu
   rw [← h2 j u hu]; congr 2; omega
  ·rw [List.getElem?_append_right (by omega)] at hu
   rw [← h4 _ u hu]; congr 2; omega
theorem OpensE.slice {α : Type} [Enc α] [o : OpensE P e α] (h : yv P t e = true) (hpos : 1 ≤ Enc.n α) : OpensE P t (List α) where
 n := (ubv h).2
 op {H enc w base spare held fuel cs x} hx := by
  rcases Deep.open_slice (ubv h).1 hx with ⟨rfl, _⟩ | ⟨a, len, cap, m, n, D, Pl, rfl, hb, hl, hm, hmm, _, hel⟩
  ·refine ⟨[], Rs.single ?_⟩
   exact R.mk_list (rows := []) (sz := 1) (us := []) (Nat.le_refl _) (Nat.zero_le _) (Nat.le_refl _) (by simp) (by simp) Rs.nil (.inl rfl) (by simp) (by simp) (by simp)
  ·have hlm : len ≤ m := by rw [hmm]; split <;> omega
   have hs : 0 < len → a.spot = none := fun h0 => by
    obtain ⟨cs', hc, ht⟩ := hel 0 (by omega)
    obtain ⟨_, hlen, hcell⟩ := World.cells?_some hc
    rw [o.n] at hlen hcell
    have := hcell 0 (by omega)
    rw [List.getElem?_eq_getElem (by omega)] at this
    have := uig this
    simpa [Addr.add] using this
   obtain ⟨xs, h1, h2⟩ := ud1 (p := fun i (y : α) => ∃ es, Rs (j5 w) w (cells y) es ∧ ∀ j e, es[j]? = some e → w.cell? ⟨a.block, a.off + i * Enc.n α + j, none⟩ = some e) len fun i hi => by
    obtain ⟨cs', hc, ht⟩ := hel i (by omega)
    obtain ⟨y, hy⟩ := o.op ht
    obtain ⟨_, hlen, hcell⟩ := World.cells?_some hc
    rw [o.n] at hlen hcell hc
    have hs' := hs (by omega)
    refine ⟨y, cs', hy, fun j u hj => ?_⟩
    have hj' : j < Enc.n α := by rw [← hlen]; exact (List.getElem?_eq_some_iff.1 hj).1
    have := hcell j hj'
    rw [hj] at this
    rw [← this]
    obtain ⟨ab, ao, asp⟩ := a
    dsimp only at hs'
    subst hs'
    rw [ri, ri]
   subst h1
   refine ⟨xs, Rs.single ?_⟩
   obtain ⟨us, k1, k2⟩ := ub9 (E := j5 w) (w := w) (b := a.block) xs a.off h2
   have := R.mk_list (E := j5 w) (w := w) (rows := xs.map cells) (a := some a) (cap := cap) (sz := Enc.n α) (us := us) (tok := .none) (by simpa using hl) hm hpos (mn xs) (fun r hr c hc => by
    obtain ⟨x, _, rfl⟩ := List.mem_map.1 hr
    exact Enc.one x c hc) k1 (by
    by_cases hxs : xs = []
    ·subst hxs; exact .inl rfl
    ·right
     have hs' := hs (List.length_pos_iff.2 hxs)
     obtain ⟨ab, ao, asp⟩ := a
     dsimp only at hs'
     subst hs'
     refine ⟨ab, ao, rfl, ?_, k2⟩
     have h0 : 0 < us.length := by
      rw [k1.1, n9 (mn xs), List.length_map]
      exact Nat.mul_pos (List.length_pos_iff.2 hxs) hpos
     have := ufs (k2 (us.length - 1) _ (List.getElem?_eq_getElem (by omega)))
     dsimp only at this
     show ao + us.length ≤ qz w ab
     omega) (by simp) (by simp) (by simp)
   rw [List.length_map] at this
   exact this
theorem ubp {l : List (Nat × TypeId × Nat)} {n : Nat} (h : jr P t l n = true) {H : Type} {enc : TypeId × Value → H} {w : World} {base : Nat} {spare : Nat → Bool} {held : Bool} {fuel : Nat} {cs : List Value} {x : DataW H × List MemPlace}
  (hx : DataW.trod enc P w base spare held fuel t cs = some x) : cs.length = n ∧ ∀ p ∈ l, ∃ m y, DataW.trod enc P w base spare held m p.2.1 ((cs.drop p.1).take p.2.2) = some y := by
 unfold jr at h
 split at h
 ·rename_i fs he
  simp only [Bool.and_eq_true, beq_iff_eq] at h
  obtain ⟨xs, m, _, _, hl, hlen, hf⟩ := DataW.trod_struct he hx
  refine ⟨by rw [hl, h.2], fun p hp => ?_⟩
  rw [← h.1] at hp
  obtain ⟨f, hfm, rfl⟩ := List.mem_map.1 hp
  obtain ⟨i, hi⟩ := List.getElem?_of_mem hfm
  have hi' : fs[i]? = some f := by simpa using hi
  have hlt : i < xs.length := by rw [hlen]; exact (Array.getElem?_eq_some_iff.1 hi').1
  exact ⟨m, xs[i], by rw [← List.getElem?_eq_getElem hlt]; exact hf i f hi'⟩
 ·cases h
theorem vx {l : List (Nat × TypeId × Nat)} {n : Nat} (h : jr P t l n = true) : P.cellsOf t = n ∧ ∃ fs, P.underlying t = some (.struct fs) := by
 unfold jr at h
 split at h
 ·rename_i fs he
  simp only [Bool.and_eq_true, beq_iff_eq] at h
  exact ⟨h.2, fs, he⟩
 ·cases h
/-- A struct of one field. -/
theorem OpensE.one {α : Type} [Enc α] [o : OpensE P e α] (h : jr P t [(0, e, Enc.n α)] (Enc.n α) = true) : OpensE P t α where
 n := (vx h).1
 op {H enc w base spare held fuel cs x} hx := by
  obtain ⟨hl, hp⟩ := ubp h hx
  obtain ⟨m, y, hy⟩ := hp _ (List.mem_cons_self ..)
  obtain ⟨a, ha⟩ := o.op hy
  dsimp only at ha
  rw [List.drop_zero, List.take_of_length_le (by omega)] at ha
  exact ⟨a, ha⟩
/-- A struct, field by field. -/
theorem OpensE.struct {α : Type} [Enc α] {l : List (Nat × TypeId × Nat)} (h : jr P t l (Enc.n α) = true)
  (b : ∀ (w : World) (cs : List Value), cs.length = Enc.n α → (∀ p ∈ l, ∀ (β : Type) (_ : Enc β), OpensE P p.2.1 β → ∃ a : β, Rs (j5 w) w (cells a) ((cs.drop p.1).take p.2.2)) → ∃ a : α, Rs (j5 w) w (cells a) cs) : OpensE P t α where
 n := (vx h).1
 op {H enc w base spare held fuel cs x} hx := by
  obtain ⟨hl, hp⟩ := ubp h hx
  exact b w cs hl fun p hpl β _ o => let ⟨_, _, hy⟩ := hp p hpl; o.op hy
theorem OpensE.chap {tI tL : TypeId} [oI : OpensE P tI Int] [oL : OpensE P tL (List (List ByteArray))] (h : jr P t [(0, tI, 1), (1, tL, 1)] 2 = true) : OpensE P t av :=
 .struct (α := av) h fun w cs hl hp => by
  obtain ⟨a, ha⟩ := hp (0, tI, 1) (by simp) Int inferInstance oI
  obtain ⟨b, hb⟩ := hp (1, tL, 1) (by simp) (List (List ByteArray)) inferInstance oL
  match cs, hl with
  | [u, v], _ => exact ⟨⟨a, b⟩, Rs.cons (Rs.single_inv ha) hb⟩
theorem OpensE.place {tI : TypeId} [oI : OpensE P tI Int] (h : jr P t [(0, tI, 1), (1, tI, 1), (2, tI, 1)] 3 = true) : OpensE P t PlaceD :=
 .struct (α := PlaceD) h fun w cs hl hp => by
  obtain ⟨a, ha⟩ := hp (0, tI, 1) (by simp) Int inferInstance oI
  obtain ⟨b, hb⟩ := hp (1, tI, 1) (by simp) Int inferInstance oI
  obtain ⟨c, hc⟩ := hp (2, tI, 1) (by simp) Int inferInstance oI
  match cs, hl with
  | [u, v, x], _ => exact ⟨⟨a, b, c⟩, Rs.cons (Rs.single_inv ha) (Rs.cons (Rs.single_inv hb) hc)⟩
/-- An argument that is a struct; a number. -/
theorem OpensE.arg {α : Type} [Enc α] [o : OpensE P t α] {l : List (Nat × TypeId × Nat)} {n : Nat} (h : jr P t l n = true) {H : Type} {enc : TypeId × Value → H} {w : World} {base : Nat} {spare : Nat → Bool} {held : Bool} {r : Reach} {b0 : Nat} {v : Value} {d : DataW H} {ps : List MemPlace}
  (hv : Value.okWide P w r b0 t v) (hd : DataW.Trod enc P w base spare held t v d ps) : ∃ a : α, R (j5 w) w (.agg (cells a)) v := by
 obtain ⟨fs, hs⟩ := (vx h).2
 obtain ⟨cs, rfl, _⟩ := okWide_struct hs hv
 obtain ⟨fuel, hf⟩ := hd
 obtain ⟨a, ha⟩ := o.op hf
 exact ⟨a, by simpa [Value.cells] using Rs.agg ha (Enc.one a)⟩
end
theorem ul9 {P : Program} {f : FuncId} {cs : List C} {v fv : Value} {fc : C} (hp : PureF (.fact fv fc) P f cs (.v v)) {w : World} {args : List Value} (hF : R (j5 w) w fc fv) (hr : Rs (j5 w) w cs args) :
  Calls P f args.toArray w fun e w' => e = .returned v ∧ Below w.heap.size w w' := by
 obtain ⟨E1, v1, g1⟩ := uez (uop w) hF
 refine (hp _ _ (jt _ _ _) E1 w args (hr.ev v1) g1).mono ?_
 rintro e w' ⟨r, x, E', G', nx', rfl, hev, hx, _, rfl, _⟩
 exact ⟨by rw [hx.v_inv], by have := hev.below; rw [v1.B] at this; exact this⟩
end Go.AB
namespace Go.AB
open Go Go.RowKit Go.ChangeShapes Go.WideShapes
open Go.AB.Enc (cells)
variable {P : Program} {o : Oper} {st : St}
theorem udp {t t' : TypeId} {X Y : Operand} {a b : Bool} (ho : o.op = .binOp .neq t X Y t') (hx : evC st X = .v (.bool a)) (hy : evC st Y = .v (.bool b)) (ht : P.underlying t = some .bool) : NStep P o st (.v (.bool (!(a == b)))) := fun E w ac h => by
 have e1 := (hx ▸ h.ev X).v_inv
 have e2 := (hy ▸ h.ev Y).v_inv
 refine ⟨_, .v rfl, fun w' => ?_⟩
 have hq := run_equal_bool (P := P) w' t a b ht
 have hb : binOp .neq t (.bool a) (.bool b) = (do pure (.bool (!(← Op.equal t (.bool a) (.bool b)))) : Sem Value) := rfl
 simp only [execOp, ho, e1, e2, Sem.run_bind, eqGuard, hb]
 simp [hq]
theorem OpensE.argU8 {t : TypeId} (h : uu P t .u8 = true) {H : Type} {enc : TypeId × Value → H} {w : World} {base : Nat} {spare : Nat → Bool} {held : Bool} {r : Reach} {b0 : Nat} {v : Value} {d : DataW H} {ps : List MemPlace}
  (hv : Value.okWide P w r b0 t v) (hd : DataW.Trod enc P w base spare held t v d ps) : ∃ a : Int, R (j5 w) w (.v (.int .u8 a)) v := by
 obtain ⟨i, rfl, _, _, wi⟩ := open_int (uab h).1 hv hd
 exact ⟨i, .v (wfU8 wi)⟩
theorem uhs {n : Int} (h : (C.v (.int .u8 n)).fit) : 0 ≤ n ∧ n ≤ 255 := (okV_int.1 (fit_v.1 h) : _)
end Go.AB
namespace Go.AB
open Go Go.RowKit
open Go.AB.Enc (cells)
variable {P : Program} {o : Oper} {st : St}
theorem zr {xt yt : TypeId} {x y : Operand} {m n : Int} (ho : o.op = .binOp .mul xt x y yt) (hx : evC st x = .v (.int .i64 m)) (hy : evC st y = .v (.int .i64 n)) (hb : -9223372036854775808 ≤ m * n ∧ m * n ≤ 9223372036854775807) : NStep P o st (.v (.int .i64 (m * n))) :=
 l3 ho hx hy (kr hb) fun w => by
  have : IntKind.i64.wrap (m * n) = m * n := by rw [IntKind.wrap_i64]; omega
  simp [eqGuard, binOp, Op.intArith, this]
theorem zq {xt yt : TypeId} {x y : Operand} {m n : Int} (ho : o.op = .binOp .quo xt x y yt) (hx : evC st x = .v (.int .i64 m)) (hy : evC st y = .v (.int .i64 n)) (hm : 0 ≤ m ∧ m ≤ 9223372036854775807) (hn : 0 < n) : NStep P o st (.v (.int .i64 (m / n))) := by
 have h3 : 0 ≤ m / n := Int.ediv_nonneg hm.1 (by omega)
 have h4 : m / n ≤ m := Int.ediv_le_self _ hm.1
 exact l3 ho hx hy (kr (by omega)) fun w => by
  have h1 : ¬ n = 0 := by omega
  have h2 : m.tdiv n = m / n := Int.tdiv_eq_ediv_of_nonneg hm.1
  have h5 : IntKind.i64.wrap (m / n) = m / n := by rw [IntKind.wrap_i64]; omega
  simp [eqGuard, binOp, Op.intDiv, h1, h2, h5]
theorem uht {n : Nat} (h : n ≤ 62) : (2 : Int) ^ n ≤ 4611686018427387904 := by
 have : 2 ^ n ≤ 2 ^ 62 := Nat.pow_le_pow_right (by omega) h
 have h2 : ((2 ^ n : Nat) : Int) = (2 : Int) ^ n := by norm_cast
 rw [← h2]
 have h3 : (2 : Nat) ^ 62 = 4611686018427387904 := by decide
 omega
/-- one, shifted -/
theorem udi {xt yt : TypeId} {x y : Operand} {n : Nat} (ho : o.op = .binOp .shl xt x y yt) (hx : evC st x = .v (.int .i64 1)) (hy : evC st y = .v (.int .i64 (n : Int))) (hn : n ≤ 62) : NStep P o st (.v (.int .i64 ((2 ^ n : Nat) : Int))) := by
 have h0 := uht hn
 have h2 : ((2 ^ n : Nat) : Int) = (2 : Int) ^ n := by norm_cast
 have h1 : 0 ≤ ((2 ^ n : Nat) : Int) := Int.natCast_nonneg _
 exact l3 ho hx hy (kr (by omega)) fun w => by
  have e1 : ¬ ((n : Int) < 0) := by omega
  have e2 : min (n : Int).toNat IntKind.i64.bits = n := by rw [Int.toNat_natCast]; show min n 64 = n; omega
  have e3 : IntKind.i64.wrap (1 * 2 ^ n) = ((2 ^ n : Nat) : Int) := by rw [Int.one_mul, ← h2, IntKind.wrap_i64]; omega
  simp only [eqGuard, binOp, Op.shift, e1, if_false, e2, e3]
  rfl
/-- a number that is not below 0, shifted back -/
theorem ue {xt yt : TypeId} {x y : Operand} {k : IntKind} {m n : Nat} (ho : o.op = .binOp .shr xt x y yt) (hx : evC st x = .v (.int k (m : Int))) (hy : evC st y = .v (.int .i64 (n : Int))) (hn : n ≤ k.bits) (hm : (m : Int) ≤ hiK k) (hk : loK k ≤ 0) : NStep P o st (.v (.int k ((m / 2 ^ n : Nat) : Int))) := by
 have h4 : m / 2 ^ n ≤ m := Nat.div_le_self _ _
 exact n_int' ho hx hy (okV_int.2 (by obtain ⟨q, hq⟩ : ∃ q, m / 2 ^ n = q := ⟨_, rfl⟩; rw [hq] at h4 ⊢; omega)) fun w => by
  have e1 : ¬ ((n : Int) < 0) := by omega
  have e2 : min (n : Int).toNat k.bits = n := by rw [Int.toNat_natCast]; omega
  have e3 : (m : Int).fdiv (2 ^ n) = ((m / 2 ^ n : Nat) : Int) := by
   have h2 : ((2 ^ n : Nat) : Int) = (2 : Int) ^ n := by norm_cast
   rw [← h2, Int.fdiv_eq_ediv_of_nonneg _ (Int.natCast_nonneg _)]
   norm_cast
  simp only [eqGuard, binOp, Op.shift, e1, if_false, e2, e3]
  rfl
where
 n_int' {op : BinOp} {xt yt : TypeId} {x y : Operand} {k k' : IntKind} {m n : Int} {r : Value} (ho : o.op = .binOp op xt x y yt) (hx : evC st x = .v (.int k m)) (hy : evC st y = .v (.int k' n))
  (h1 : okV r = true) (h : ∀ w, (do eqGuard op xt x y (.int k m) (.int k' n); binOp op xt (.int k m) (.int k' n)).run P w = .ok r w) : NStep P o st (.v r) := fun E w a hs => by
  have e1 := (hx ▸ hs.ev x).v_inv
  have e2 := (hy ▸ hs.ev y).v_inv
  refine ⟨r, .v h1, fun w' => ?_⟩
  have := h w'
  simp only [execOp, ho, e1, e2, Sem.run_bind] at this ⊢
  rw [this]
  rfl
/-- the last bit -/
theorem uh {xt yt : TypeId} {x y : Operand} {k : IntKind} {m : Nat} (ho : o.op = .binOp .and xt x y yt) (hx : evC st x = .v (.int k (m : Int))) (hy : evC st y = .v (.int k 1)) (hm : m < 2 ^ k.bits) (hb : 2 ≤ k.bits) : NStep P o st (.v (.int k ((m % 2 : Nat) : Int))) := by
 have h2 : m % 2 < 2 := Nat.mod_lt _ (by omega)
 exact l3 ho hx hy (okV_int.2 (by cases k <;> simp only [loK, hiK] <;> omega)) fun w => by
  have e1 : (BitVec.ofInt k.bits (m : Int) &&& BitVec.ofInt k.bits 1).toNat = m % 2 := by
   have q1 : (BitVec.ofInt k.bits (m : Int)).toNat = m := by
    rw [show BitVec.ofInt k.bits (m : Int) = BitVec.ofNat k.bits m from BitVec.ofInt_natCast .., BitVec.toNat_ofNat, Nat.mod_eq_of_lt hm]
   have q2 : (BitVec.ofInt k.bits 1).toNat = 1 := by
    rw [show BitVec.ofInt k.bits 1 = BitVec.ofNat k.bits 1 from BitVec.ofInt_natCast k.bits 1, BitVec.toNat_ofNat, Nat.mod_eq_of_lt]
    exact Nat.one_lt_two_pow (by omega)
   rw [BitVec.toNat_and, q1, q2, Nat.and_one_is_mod]
  have e2 : k.wrap ((m % 2 : Nat) : Int) = ((m % 2 : Nat) : Int) := by
   have : m % 2 = 0 ∨ m % 2 = 1 := by omega
   rcases this with h | h <;> rw [h] <;> cases k <;> decide
  simp only [eqGuard, binOp, Op.intBits, e1, e2]
  simp
end Go.AB
namespace Go.AB
open Go Go.RowKit
open Go.AB.Enc (cells)
open Go.PB (av ai PlaceD az bf ba bl am af co bj dc dg)
theorem ubt {t : ai} (ht : dv t = true) (k : Nat) : f5 t k ≤ 60 := by
 obtain ⟨_, h2, h3⟩ := mf ht
 have key : ∀ j, j ≤ t.length → f5 t j ≤ j * 10 := by
  intro j
  induction j with
  | zero => intro _; rw [ubs]; exact Nat.zero_le _
  | succ j ih =>
   intro hj
   have hc : t[j]? = some t[j] := List.getElem?_eq_getElem (by omega)
   rw [tm hc]
   have := (h3 _ (List.mem_of_getElem? hc)).2.1
   have := ih (by omega)
   omega
 by_cases q : k ≤ t.length
 ·have := key k q; omega
 have h1 := key t.length (Nat.le_refl _)
 have e : f5 t k = f5 t t.length := by
  unfold f5
  rw [List.take_of_length_le (show t.length ≤ k by omega), List.take_of_length_le (Nat.le_refl _)]
 omega
instance decLtW : ∀ a b : List Int, Decidable (ltW a b)
 | [], _ => isFalse (by simp [ltW])
 | _ :: _, [] => isFalse (by simp [ltW])
 | x :: a, y :: b => by
  have := decLtW a b
  unfold ltW
  exact inferInstance
end Go.AB
namespace Go.Proofs.YtbbdginipiljdaaDoor
set_option maxRecDepth 10000
open Go.RowKit Go.AB
open Go.AB.Enc (cells)
open Go.PB (av ai PlaceD az bf ba bl am af co bj dc dg)
theorem rr (n lo hi : Int) : Pure Tryd.prog 50 [.v (.int .i64 n), .v (.int .i64 lo), .v (.int .i64 hi)] (.v (.bool (inB n lo hi))) := by
 refine c5 Tryd.func50 rfl (fun m => .v) fun G nx => ?_
 simp only [Tryd.ntmps50, List.length_cons, List.length_nil, Nat.reduceAdd, Nat.reduceSub]
 refine bu fun hlt => ?_
 dsimp only at hlt
 refine yS fun _ K1 => ?_
 refine yR ?_
 refine yA rfl rfl ?_
 refine yN ?_
 dsimp only [St.put]
 refine K1 _ ?_
 refine yS fun _ K2 => ?_
 refine yR ?_
 refine yM rfl rfl ?_
 refine yM rfl rfl ?_
 refine aa rfl (kb rfl rfl rfl) ?_
 refine eg (fun hs => ?_) (fun hs => ?_)
 ·try replace hs := of_decide_eq_true hs
  refine yM rfl rfl ?_
  refine yM rfl rfl ?_
  refine yM rfl rfl ?_
  refine aa rfl (uf rfl rfl rfl) ?_
  refine aa rfl (bz rfl rfl (by constructor)) ?_
  refine yA rfl rfl ?_
  refine yN ?_
  dsimp only [St.put]
  refine K2 _ ?_
  refine aq ?_
  refine bh rfl (by constructor) zN zS ?_
  exact vb (by simp [inB, hs]; try omega)
 try replace hs := of_decide_eq_false hs
 refine yM rfl rfl ?_
 refine yK rfl ?_
 refine yK rfl ?_
 refine yK rfl ?_
 refine aa rfl (ck rfl rfl (by constructor)) ?_
 refine yA rfl rfl ?_
 refine yN ?_
 dsimp only [St.put]
 refine K2 _ ?_
 refine aq ?_
 refine bh rfl (by constructor) zN zS ?_
 exact vb (by simp [inB, hs]; try omega)
theorem ujr (t : ai) (ht : dv t = true) : Pure Tryd.prog 78 [gu t] (.v (.int .i64 (mx t : Int))) := by
 refine c5 Tryd.func78 rfl (fun m => .v) fun G nx => ?_
 simp only [Tryd.ntmps78, List.length_cons, List.length_nil, Nat.reduceAdd, Nat.reduceSub]
 refine bu fun hlt => ?_
 dsimp only at hlt
 obtain ⟨hl1, hl2, hl3⟩ := mf ht
 refine yS fun _ K1 => ?_
 refine yR ?_
 try dsimp only [St.put]
 refine yB rfl rfl rfl ?_
 refine yA rfl rfl ?_
 refine yN ?_
 dsimp only [St.put]
 refine K1 _ ?_
 refine yS fun _ K2 => ?_
 refine yR ?_
 refine yA rfl rfl ?_
 refine yN ?_
 dsimp only [St.put]
 refine K2 _ ?_
 refine yS fun _ K3 => ?_
 refine yS fun _ K4 => ?_
 refine yR ?_
 refine yA rfl rfl ?_
 refine yN ?_
 dsimp only [St.put]
 refine K4 _ ?_
 refine bk ?_
 refine cp 5 ?_
 refine zQ ?_
 refine dq (G) zX ?_
 dsimp only
 refine dp (X := Nat) (fun k => k ≤ t.length) (fun k => t.length - k) (fun k => [(3, .v (.int .i64 ((f5 t k : Nat) : Int))), (4, .v (.int .i64 (k : Int)))]) (fun k G' => G') 0 rfl ?_ ?_ (fun _ _ h => h) ?_ ?_ ?_
 ·exact Nat.zero_le _
 ·exact zF
 ·rintro k hI
  exact zL
 ·exact fun _ _ _ _ h => .inl h
 rintro k hI
 dsimp only at hI ⊢
 refine yS fun _ K5 => ?_
 refine yS fun _ K6 => ?_
 refine yR ?_
 refine yM rfl rfl ?_
 refine yF rfl rfl rfl rfl ?_
 refine yL rfl rfl rfl ?_
 refine aa rfl (bp rfl rfl (List.length_map _)) ?_
 refine aa rfl (cv rfl rfl rfl) ?_
 refine yN ?_
 dsimp only [St.put]
 refine K6 _ ?_
 refine ar rfl (fun hc => ?_) (fun hc => ?_)
 ·replace hc := of_decide_eq_true hc
  obtain ⟨c, hk⟩ : ∃ x, t[k]? = some x := dr (by omega)
  have hcl := hl3 c (gd hk)
  have hst := ubt ht k
  refine ax ?_
  refine K5 _ ?_
  refine yS fun _ K7 => ?_
  refine bk ?_
  refine yR ?_
  refine yM rfl rfl ?_
  refine yF rfl rfl rfl rfl ?_
  refine yL rfl rfl rfl ?_
  refine yM rfl rfl ?_
  refine aa rfl (cb rfl rfl rfl rfl (ca (by assumption)) (Enc.len _)) ?_
  refine yF rfl rfl rfl rfl ?_
  refine yL rfl rfl rfl ?_
  refine aa rfl (bp rfl rfl (List.length_map _)) ?_
  refine aa rfl (cg rfl rfl rfl (by omega)) ?_
  refine yA rfl rfl ?_
  refine yN ?_
  dsimp only [St.put]
  refine K7 _ ?_
  refine yR ?_
  refine yM rfl rfl ?_
  refine aa rfl (cg rfl rfl rfl (by omega)) ?_
  refine yA rfl rfl ?_
  refine yN ?_
  dsimp only [St.put]
  have e := tm hk
  rw [show ((f5 t k : Nat) : Int) + (c.lines.length : Int) = ((f5 t (k + 1) : Nat) : Int) by rw [e]; rfl]
  exact ⟨k + 1, by omega, by omega, ⟨⟨rfl, rfl⟩, zF, zB, zN, zX⟩⟩
 replace hc := of_decide_eq_false hc
 obtain rfl : k = t.length := by omega
 refine dj ?_
 refine K3 _ ?_
 refine yS fun _ K8 => ?_
 refine yR ?_
 refine yM rfl rfl ?_
 refine yA rfl rfl ?_
 refine yN ?_
 dsimp only [St.put]
 refine K8 _ ?_
 refine aq ?_
 refine bh rfl (by constructor) zN zS ?_
 rfl
theorem uci (t : ai) (q : PlaceD) (ht : dv t = true) (hq : fy t q = true) : Pure Tryd.prog 70 [gu t, val q] (.v (.int .i64 (qw t q))) := by
 refine c5 Tryd.func70 rfl (fun m => .v) fun G nx => ?_
 simp only [Tryd.ntmps70, List.length_cons, List.length_nil, Nat.reduceAdd, Nat.reduceSub]
 refine bu fun hlt => ?_
 dsimp only at hlt
 obtain ⟨hl1, hl2, hl3⟩ := mf ht
 obtain ⟨kc, kn, kw, c0, l0, hqe, hkc, hkn, _⟩ := ucp hq
 have hkcl := (List.getElem?_eq_some_iff.1 hkc).1
 have hknl := (List.getElem?_eq_some_iff.1 hkn).1
 have hc0 := (hl3 c0 (gd hkc)).2.1
 subst hqe
 refine yS fun _ K1 => ?_
 refine yR ?_
 try dsimp only [St.put]
 refine yB rfl rfl rfl ?_
 try dsimp only [St.put]
 refine yB rfl rfl rfl ?_
 refine yA rfl rfl ?_
 refine yN ?_
 dsimp only [St.put]
 refine K1 _ ?_
 refine yS fun _ K2 => ?_
 refine yR ?_
 refine yF rfl rfl rfl rfl ?_
 refine yL rfl rfl rfl ?_
 refine yA rfl rfl ?_
 refine yN ?_
 dsimp only [St.put]
 refine K2 _ ?_
 refine yS fun _ K3 => ?_
 refine yS fun _ K4 => ?_
 refine yR ?_
 refine yA rfl rfl ?_
 refine yN ?_
 dsimp only [St.put]
 refine K4 _ ?_
 refine bk ?_
 refine cp 7 ?_
 refine zQ ?_
 refine dq (G) zX ?_
 dsimp only
 refine dp (X := Nat) (fun k => k ≤ kc) (fun k => kc - k) (fun k => [(5, .v (.int .i64 ((kn : Int) + ((f5 t k : Nat) : Int)))), (6, .v (.int .i64 (k : Int)))]) (fun k G' => G') 0 rfl ?_ ?_ (fun _ _ h => h) ?_ ?_ ?_
 ·exact Nat.zero_le _
 ·exact zF
 ·rintro k hI
  exact zL
 ·exact fun _ _ _ _ h => .inl h
 rintro k hI
 dsimp only at hI ⊢
 refine yS fun _ K5 => ?_
 refine yS fun _ K6 => ?_
 refine yR ?_
 refine yM rfl rfl ?_
 refine yF rfl rfl rfl rfl ?_
 refine yL rfl rfl rfl ?_
 refine aa rfl (cv rfl rfl rfl) ?_
 refine yN ?_
 dsimp only [St.put]
 refine K6 _ ?_
 refine ar rfl (fun hc => ?_) (fun hc => ?_)
 ·replace hc := of_decide_eq_true hc
  obtain ⟨c, hk⟩ : ∃ x, t[k]? = some x := dr (by omega)
  have hcl := hl3 c (gd hk)
  have hst := ubt ht k
  refine ax ?_
  refine K5 _ ?_
  refine yS fun _ K7 => ?_
  refine bk ?_
  refine yR ?_
  refine yM rfl rfl ?_
  refine yF rfl rfl rfl rfl ?_
  refine yL rfl rfl rfl ?_
  refine yM rfl rfl ?_
  refine aa rfl (cb rfl rfl rfl rfl (ca (by assumption)) (Enc.len _)) ?_
  refine yF rfl rfl rfl rfl ?_
  refine yL rfl rfl rfl ?_
  refine aa rfl (bp rfl rfl (List.length_map _)) ?_
  refine aa rfl (cg rfl rfl rfl (by omega)) ?_
  refine yA rfl rfl ?_
  refine yN ?_
  dsimp only [St.put]
  refine K7 _ ?_
  refine yR ?_
  refine yM rfl rfl ?_
  refine aa rfl (cg rfl rfl rfl (by omega)) ?_
  refine yA rfl rfl ?_
  refine yN ?_
  dsimp only [St.put]
  have e := tm hk
  rw [show (kn : Int) + ((f5 t k : Nat) : Int) + (c.lines.length : Int) = (kn : Int) + ((f5 t (k + 1) : Nat) : Int) by rw [e, Int.natCast_add]; omega]
  exact ⟨k + 1, by omega, by omega, ⟨⟨rfl, rfl⟩, zF, zB, zN, zX⟩⟩
 replace hc := of_decide_eq_false hc
 obtain rfl : k = kc := by omega
 refine dj ?_
 refine K3 _ ?_
 refine yS fun _ K8 => ?_
 refine yR ?_
 refine yM rfl rfl ?_
 refine yA rfl rfl ?_
 refine yN ?_
 dsimp only [St.put]
 refine K8 _ ?_
 refine aq ?_
 refine bh rfl (by constructor) zN zS ?_
 exact vi (by unfold qw; rw [Int.toNat_natCast])
theorem uch (a b : List Int) (ha : a.length ≤ 1000) : Pure Tryd.prog 28 [lst a, lst b] (.v (.bool (decide (a = b)))) := by
 refine c5 Tryd.func28 rfl (fun m => .v) fun G nx => ?_
 simp only [Tryd.ntmps28, List.length_cons, List.length_nil, Nat.reduceAdd, Nat.reduceSub]
 refine bu fun hlt => ?_
 dsimp only at hlt
 refine lh 1 (fun hfb => ?_)
 have hb := (fit_lst.1 hfb).1
 refine yS fun _ K1 => ?_
 refine yR ?_
 refine yA rfl rfl ?_
 refine yN ?_
 dsimp only [St.put]
 refine K1 _ ?_
 refine yS fun _ K2 => ?_
 refine yS fun _ K3 => ?_
 refine yR ?_
 refine yM rfl rfl ?_
 refine aa rfl (bp rfl rfl (List.length_map _)) ?_
 refine yM rfl rfl ?_
 refine aa rfl (bp rfl rfl (List.length_map _)) ?_
 refine aa rfl (ff rfl rfl rfl) ?_
 refine yN ?_
 dsimp only [St.put]
 refine K3 _ ?_
 refine ar rfl (fun hc => ?_) (fun hc => ?_)
 ·try replace hc := of_decide_eq_true hc
  refine yS fun _ K4 => ?_
  refine yR ?_
  refine yA rfl rfl ?_
  refine yN ?_
  dsimp only [St.put]
  refine K4 _ ?_
  refine aq ?_
  refine bh rfl (by constructor) zN zS ?_
  exact vb (by
   have : a ≠ b := fun e => by subst e; simp at hc
   simp [this])
 have hl : a.length = b.length := by
  have := ip hc
  omega
 refine ax ?_
 refine K2 _ ?_
 refine yS fun _ K5 => ?_
 refine yS fun _ K6 => ?_
 refine yR ?_
 refine yA rfl rfl ?_
 refine yN ?_
 dsimp only [St.put]
 refine K6 _ ?_
 refine bk ?_
 refine cp 6 ?_
 refine zQ ?_
 refine dq (G) zX ?_
 dsimp only
 refine dp (X := Nat) (fun k => k ≤ a.length ∧ a.take k = b.take k) (fun k => a.length - k) (fun k => [(5, .v (.int .i64 (k : Int)))]) (fun k G' => G') 0 rfl ?_ ?_ (fun _ _ h => h) ?_ ?_ ?_
 ·exact ⟨Nat.zero_le _, by simp⟩
 ·exact zF
 ·rintro k hI
  exact zL
 ·exact fun _ _ _ _ h => .inl h
 rintro k hI
 dsimp only at hI ⊢
 refine yS fun _ K7 => ?_
 refine yS fun _ K8 => ?_
 refine yR ?_
 refine yM rfl rfl ?_
 refine yM rfl rfl ?_
 refine aa rfl (bp rfl rfl (List.length_map _)) ?_
 refine aa rfl (cv rfl rfl rfl) ?_
 refine yN ?_
 dsimp only [St.put]
 refine K8 _ ?_
 refine ar rfl (fun hc => ?_) (fun hc => ?_)
 ·replace hc := of_decide_eq_true hc
  obtain ⟨x, hx⟩ : ∃ x, a[k]? = some x := dr (by omega)
  obtain ⟨y, hy⟩ : ∃ y, b[k]? = some y := dr (by omega)
  refine ax ?_
  refine K7 _ ?_
  refine yS fun _ K9 => ?_
  refine bk ?_
  refine yS fun _ K10 => ?_
  refine g8 [(0, none), (1, none), (2, none), (3, none), (4, none), (5, none), (6, none), (7, none), (8, none)] (fun i => [].contains i) (fun i => [].contains i) (fun i => [0, 1, 2, 4, 5, 6, 8].contains i) [] (by kernel_rfl) (by kernel_rfl) ?_
  refine xM rfl rfl rfl rfl rfl ?_
  refine xM rfl rfl rfl rfl rfl ?_
  try dsimp only [St.put]
  refine ah rfl rfl rfl rfl (cb rfl rfl rfl rfl (ca (by assumption)) (Enc.len _)) ?_
  try dsimp only [St.put]
  refine aw rfl rfl rfl rfl (bq rfl rfl) ?_
  refine xM rfl rfl rfl rfl rfl ?_
  refine xM rfl rfl rfl rfl rfl ?_
  try dsimp only [St.put]
  refine ah rfl rfl rfl rfl (cb rfl rfl rfl rfl (ca (by assumption)) (Enc.len _)) ?_
  try dsimp only [St.put]
  refine aw rfl rfl rfl rfl (bq rfl rfl) ?_
  refine ah rfl rfl rfl rfl (ff rfl rfl rfl) ?_
  refine cn ?_
  dsimp only [St.put]
  refine K10 _ ?_
  refine ar rfl (fun hc => ?_) (fun hc => ?_)
  ·have hxy := j8 hc
   refine yS fun _ K11 => ?_
   refine yR ?_
   refine yA rfl rfl ?_
   refine yN ?_
   dsimp only [St.put]
   refine K11 _ ?_
   refine aq ?_
   refine bh rfl (by constructor) zN zS ?_
   exact vb (by simp [udg hx hy hxy])
  have hxy := ip hc
  refine ax ?_
  refine K9 _ ?_
  refine yR ?_
  refine yM rfl rfl ?_
  refine aa rfl (cg rfl rfl rfl (by omega)) ?_
  refine yA rfl rfl ?_
  refine yN ?_
  dsimp only [St.put]
  exact ⟨k + 1, by omega, ⟨by omega, ubg hI.2 hx (hxy ▸ hy)⟩, ⟨⟨rfl, rfl⟩, zF, zB, zN, zX⟩⟩
 replace hc := of_decide_eq_false hc
 refine dj ?_
 refine K5 _ ?_
 refine yS fun _ K12 => ?_
 refine yR ?_
 refine yA rfl rfl ?_
 refine yN ?_
 dsimp only [St.put]
 refine K12 _ ?_
 refine aq ?_
 refine bh rfl (by constructor) zN zS ?_
 exact vb (by
  have h1 := hI.2
  rw [gw (by omega), gw (by omega)] at h1
  simp [h1])
end Go.Proofs.YtbbdginipiljdaaDoor
namespace Go.AB
open Go Go.RowKit
open Go.AB.Enc (cells)
open Go.PB (av ai PlaceD az bf ba bl am af co bj dc dg)
theorem bit_eq {s k : Nat} : (((s / 2 ^ k % 2 : Nat) : Int) = 1) ↔ s.testBit k = true := by
 rw [Nat.testBit_eq_decide_div_mod_eq, decide_eq_true_eq]
 omega
end Go.AB
namespace Go.Proofs.YtbbdginipiljdaaDoor
set_option maxRecDepth 10000
open Go.RowKit Go.AB
open Go.AB.Enc (cells)
open Go.PB (av ai PlaceD az bf ba bl am af co bj dc dg)
end Go.Proofs.YtbbdginipiljdaaDoor
namespace Go.AB
open Go Go.RowKit
open Go.AB.Enc (cells)
open Go.PB (av ai PlaceD az bf ba bl am af co bj dc dg)
theorem ubk {l : List am} {g : am → Nat} (k : Nat) : d7 (l.take k) g ≤ d7 l g := by
 have h : d7 l g = d7 (l.take k) g + d7 (l.drop k) g := by
  unfold d7
  rw [← List.sum_append, ← List.map_append, List.take_append_drop]
 omega
theorem ulh {p : af} {b : Bool} {i : Nat} {r : bl} (h : (d8 p b)[i]? = some r) : ke p b i = r.miss := by unfold ke; rw [h]
theorem umx (R : Nat → Int) (S : Nat → Bool) (k : Nat) : fR R S (k + 1) = fR R S k + bif S k then R k else 0 := rfl
theorem ue6 (p : af) (C : Nat → Int) (S : Nat → Bool) (k : Nat) : fC p C S (k + 1) = fC p C S k + bif (bi p).hit S k then 0 else C k := rfl
end Go.AB
namespace Go.Proofs.YtbbdginipiljdaaDoor
set_option maxRecDepth 10000
open Go.RowKit Go.AB
open Go.AB.Enc (cells)
open Go.PB (av ai PlaceD az bf ba bl am af co bj dc dg)
end Go.Proofs.YtbbdginipiljdaaDoor
namespace Go.Proofs.YtbbdginipiljdaaDoor
set_option maxRecDepth 10000
open Go Go.RowKit Go.AB
open Go.AB.Enc (cells)
open Go.PB (av ai PlaceD az bf ba bl am af co bj dc dg)
theorem uis (p : af) : Pure Tryd.prog 151 [val p] (lst p.firsts) := by
 refine c5 Tryd.func151 rfl (fun m => (br _ _)) fun G nx => ?_
 simp only [Tryd.ntmps151, List.length_cons, List.length_nil, Nat.reduceAdd, Nat.reduceSub]
 refine bu fun hlt => ?_
 dsimp only at hlt
 refine yS fun _ K1 => ?_
 refine yR ?_
 try dsimp only [St.put]
 refine yB rfl rfl rfl ?_
 refine yA rfl rfl ?_
 refine yN ?_
 dsimp only [St.put]
 refine K1 _ ?_
 refine yS fun _ K2 => ?_
 refine yR ?_
 refine yF rfl rfl rfl rfl ?_
 refine yL rfl rfl rfl ?_
 refine yA rfl rfl ?_
 refine yN ?_
 dsimp only [St.put]
 refine K2 _ ?_
 refine aq ?_
 refine bh rfl (by constructor) zN zS ?_
 rfl
theorem uir (x : am) : Pure Tryd.prog 152 [val x] (.v (.int .i64 x.fst)) := by
 refine c5 Tryd.func152 rfl (fun m => .v) fun G nx => ?_
 simp only [Tryd.ntmps152, List.length_cons, List.length_nil, Nat.reduceAdd, Nat.reduceSub]
 refine bu fun hlt => ?_
 dsimp only at hlt
 refine yS fun _ K1 => ?_
 refine yR ?_
 try dsimp only [St.put]
 refine yB rfl rfl rfl ?_
 refine yA rfl rfl ?_
 refine yN ?_
 dsimp only [St.put]
 refine K1 _ ?_
 refine yS fun _ K2 => ?_
 refine yR ?_
 refine yF rfl rfl rfl rfl ?_
 refine yL rfl rfl rfl ?_
 refine yA rfl rfl ?_
 refine yN ?_
 dsimp only [St.put]
 refine K2 _ ?_
 refine aq ?_
 refine bh rfl (by constructor) zN zS ?_
 rfl
theorem uiq (x : am) : Pure Tryd.prog 153 [val x] (lst x.found) := by
 refine c5 Tryd.func153 rfl (fun m => (br _ _)) fun G nx => ?_
 simp only [Tryd.ntmps153, List.length_cons, List.length_nil, Nat.reduceAdd, Nat.reduceSub]
 refine bu fun hlt => ?_
 dsimp only at hlt
 refine yS fun _ K1 => ?_
 refine yR ?_
 try dsimp only [St.put]
 refine yB rfl rfl rfl ?_
 refine yA rfl rfl ?_
 refine yN ?_
 dsimp only [St.put]
 refine K1 _ ?_
 refine yS fun _ K2 => ?_
 refine yR ?_
 refine yF rfl rfl rfl rfl ?_
 refine yL rfl rfl rfl ?_
 refine yA rfl rfl ?_
 refine yN ?_
 dsimp only [St.put]
 refine K2 _ ?_
 refine aq ?_
 refine bh rfl (by constructor) zN zS ?_
 rfl
theorem uip (p : af) : Pure Tryd.prog 154 [val p] (lst p.seconds) := by
 refine c5 Tryd.func154 rfl (fun m => (br _ _)) fun G nx => ?_
 simp only [Tryd.ntmps154, List.length_cons, List.length_nil, Nat.reduceAdd, Nat.reduceSub]
 refine bu fun hlt => ?_
 dsimp only at hlt
 refine yS fun _ K1 => ?_
 refine yR ?_
 try dsimp only [St.put]
 refine yB rfl rfl rfl ?_
 refine yA rfl rfl ?_
 refine yN ?_
 dsimp only [St.put]
 refine K1 _ ?_
 refine yS fun _ K2 => ?_
 refine yR ?_
 refine yF rfl rfl rfl rfl ?_
 refine yL rfl rfl rfl ?_
 refine yA rfl rfl ?_
 refine yN ?_
 dsimp only [St.put]
 refine K2 _ ?_
 refine aq ?_
 refine bh rfl (by constructor) zN zS ?_
 rfl
theorem uio (x : am) : Pure Tryd.prog 155 [val x] (.v (.int .i64 x.snd)) := by
 refine c5 Tryd.func155 rfl (fun m => .v) fun G nx => ?_
 simp only [Tryd.ntmps155, List.length_cons, List.length_nil, Nat.reduceAdd, Nat.reduceSub]
 refine bu fun hlt => ?_
 dsimp only at hlt
 refine yS fun _ K1 => ?_
 refine yR ?_
 try dsimp only [St.put]
 refine yB rfl rfl rfl ?_
 refine yA rfl rfl ?_
 refine yN ?_
 dsimp only [St.put]
 refine K1 _ ?_
 refine yS fun _ K2 => ?_
 refine yR ?_
 refine yF rfl rfl rfl rfl ?_
 refine yL rfl rfl rfl ?_
 refine yA rfl rfl ?_
 refine yN ?_
 dsimp only [St.put]
 refine K2 _ ?_
 refine aq ?_
 refine bh rfl (by constructor) zN zS ?_
 rfl
theorem uin (x : am) : Pure Tryd.prog 156 [val x] (lst x.well) := by
 refine c5 Tryd.func156 rfl (fun m => (br _ _)) fun G nx => ?_
 simp only [Tryd.ntmps156, List.length_cons, List.length_nil, Nat.reduceAdd, Nat.reduceSub]
 refine bu fun hlt => ?_
 dsimp only at hlt
 refine yS fun _ K1 => ?_
 refine yR ?_
 try dsimp only [St.put]
 refine yB rfl rfl rfl ?_
 refine yA rfl rfl ?_
 refine yN ?_
 dsimp only [St.put]
 refine K1 _ ?_
 refine yS fun _ K2 => ?_
 refine yR ?_
 refine yF rfl rfl rfl rfl ?_
 refine yL rfl rfl rfl ?_
 refine yA rfl rfl ?_
 refine yN ?_
 dsimp only [St.put]
 refine K2 _ ?_
 refine aq ?_
 refine bh rfl (by constructor) zN zS ?_
 rfl
def sRd (b : Bool) : FuncId := bif b then 154 else 151
def sFt (b : Bool) : FuncId := bif b then 155 else 152
def sFd (b : Bool) : FuncId := bif b then 156 else 153
instance (b : Bool) : Fun Tryd.prog (sRd b) := by
 cases b
 ·exact inferInstanceAs (Fun Tryd.prog 151)
 exact inferInstanceAs (Fun Tryd.prog 154)
instance (b : Bool) : Fun Tryd.prog (sFt b) := by
 cases b
 ·exact inferInstanceAs (Fun Tryd.prog 152)
 exact inferInstanceAs (Fun Tryd.prog 155)
instance (b : Bool) : Fun Tryd.prog (sFd b) := by
 cases b
 ·exact inferInstanceAs (Fun Tryd.prog 153)
 exact inferInstanceAs (Fun Tryd.prog 156)
theorem pn (b : Bool) (p : af) : Pure Tryd.prog (sRd b) [val p] (lst (d8 p b)) := by
 cases b
 ·exact uis p
 exact uip p
theorem yy (b : Bool) (x : am) : Pure Tryd.prog (sFt b) [val x] (.v (.int .i64 (el b x))) := by
 cases b
 ·exact uir x
 exact uio x
theorem ub4 (b : Bool) (x : am) : Pure Tryd.prog (sFd b) [val x] (lst (di b x)) := by
 cases b
 ·exact uiq x
 exact uin x
abbrev ot (b : Bool) : List C := [.fn (.func (sRd b)) [], .fn (.func (sFt b)) [], .fn (.func (sFd b)) []]
abbrev sidL : List C := ot false ++ ot true
abbrev fm : GObj := .fact (.pointer (some ⟨0, 0, none⟩)) (.elem sidL)
abbrev ku (p : af) : List C := [lst p.text, lst p.firsts, lst p.seconds, lst p.pages, lst (p.pages.map fun x => (fl p.text x : Int)), lst (p.pages.map (ey p.text)), lst (p.pages.map (d9 p.text))]
theorem v8 : ∀ {k : Nat}, k < 2 → (sidL.drop (k * 3)).take 3 = ot (decide (k = 1))
 | 0, _ => rfl
 | 1, _ => rfl
 | k + 2, h => by omega
set_option maxHeartbeats 1000000 in
theorem ucs (p : af) (b : Bool) (i : Nat) (h : ez p) (hi : i < (d8 p b).length) : Pure Tryd.prog 49 [.elem (ku p), .agg (ot b), .v (.int .i64 (i : Int))] (.tup [.v (.int .i64 (na p b i)), .v (.int .i64 (mo p b i))]) := by
 refine c5 Tryd.func49 rfl (fun m => .tup (ci .v (ci .v dh))) fun G nx => ?_
 simp only [Tryd.ntmps49, List.length_cons, List.length_nil, Nat.reduceAdd, Nat.reduceSub]
 refine bu fun hlt => ?_
 dsimp only at hlt
 have hown := uc1 h b (i : Int)
 have hrd := uce h b (i : Int)
 have hal := rh h.text
 have hnp := h.np
 have hmb := udq h b i
 obtain ⟨r, hr⟩ : ∃ r, (d8 p b)[i]? = some r := dr hi
 have hmr := ulh hr
 refine yS fun _ K1 => ?_
 refine yR ?_
 try dsimp only [St.put]
 refine yB rfl rfl rfl ?_
 refine yA rfl rfl ?_
 refine yA rfl rfl ?_
 refine yN ?_
 dsimp only [St.put]
 refine K1 _ ?_
 refine yS fun _ K2 => ?_
 refine yR ?_
 refine yA rfl rfl ?_
 refine yA rfl rfl ?_
 refine yN ?_
 dsimp only [St.put]
 refine K2 _ ?_
 refine yS fun _ K3 => ?_
 refine yS fun _ K4 => ?_
 refine yR ?_
 refine yM rfl rfl ?_
 refine aa rfl (lz rfl rfl) ?_
 refine yF rfl rfl rfl rfl ?_
 refine yF rfl rfl rfl rfl ?_
 refine yL rfl rfl rfl ?_
 refine aa rfl (bp rfl rfl (List.length_map _)) ?_
 refine yM rfl rfl ?_
 refine yN ?_
 dsimp only [St.put]
 refine K4 _ ?_
 refine bk ?_
 refine cp 20 ?_
 refine zQ ?_
 refine dq (G) zX ?_
 dsimp only
 refine dp (X := Nat) (fun k => k ≤ p.pages.length) (fun k => p.pages.length - k) (fun k => [(8, .v (.int .i64 ((d7 (p.pages.take k) (gm b (i : Int)) : Nat) : Int))), (9, .v (.int .i64 ((d7 (p.pages.take k) (iy p.text b (i : Int)) : Nat) : Int))), (10, .any), (11, .any), (19, .v (.int .i64 (k : Int)))]) (fun k G' => G') 0 rfl ?_ ?_ (fun _ _ h => h) ?_ ?_ ?_
 ·exact Nat.zero_le _
 ·exact zF
 ·rintro k hI
  exact zL
 ·exact fun _ _ _ _ h => .inl h
 rintro k hI
 dsimp only at hI ⊢
 refine yS fun _ K5 => ?_
 refine yR ?_
 refine aa rfl (cv rfl rfl rfl) ?_
 refine yN ?_
 dsimp only [St.put]
 refine K5 _ ?_
 refine yS fun _ K6 => ?_
 refine ar rfl (fun hc => ?_) (fun hc => ?_)
 ·replace hc := of_decide_eq_true hc
  obtain ⟨x, hx⟩ : ∃ x, p.pages[k]? = some x := dr (by omega)
  have hax : (p.pages.map (ey p.text))[k]? = some (ey p.text x) := by rw [List.getElem?_map, hx]; rfl
  have hp := pageB_true.1 (h.page k x hx)
  have hfd : (di b x).length ≤ 600 := by
   have hfl := qc hp.found
   have hwl := qc hp.well
   cases b
   ·show x.found.length ≤ 600
    omega
   show x.well.length ≤ 600
   omega
  have hgl := xn p.text x
  have ht1 := ubk (l := p.pages) (g := gm b (i : Int)) k
  have ht2 := ubk (l := p.pages) (g := iy p.text b (i : Int)) k
  refine ax ?_
  refine K6 _ ?_
  refine yS fun _ K7 => ?_
  refine bk ?_
  refine yS fun _ K8 => ?_
  refine yR ?_
  refine yM rfl rfl ?_
  refine aa rfl (cb rfl rfl rfl rfl (ca (by assumption)) (Enc.len _)) ?_
  refine yE rfl rfl rfl ?_
  try dsimp only [St.put]
  refine ae rfl (dd rfl ?_)
  refine yA rfl rfl ?_
  try dsimp only [St.put]
  refine ae rfl (cw rfl rfl rfl zG rfl rfl (by rfl) ?_)
  refine yN ?_
  dsimp only [St.put]
  refine K8 _ ?_
  refine fj (i := 11) rfl zG zC ?_
  dsimp only
  refine yS fun _ K9 => ?_
  refine yR ?_
  refine yF rfl rfl rfl rfl ?_
  refine yL rfl rfl rfl ?_
  refine yE rfl rfl rfl ?_
  try dsimp only [St.put]
  refine ae rfl (ay rfl rfl rfl (yy b x) ?_)
  refine yM rfl rfl ?_
  refine aa rfl (fp rfl rfl rfl) ?_
  refine yN ?_
  dsimp only [St.put]
  refine K9 _ ?_
  refine ar rfl (fun hc => ?_) (fun hc => ?_)
  ·have hyes : el b x = (i : Int) := of_decide_eq_true hc
   refine yS fun _ K10 => ?_
   refine yR ?_
   refine yM rfl rfl ?_
   refine yF rfl rfl rfl rfl ?_
   refine yL rfl rfl rfl ?_
   refine yE rfl rfl rfl ?_
   try dsimp only [St.put]
   refine ae rfl (ay rfl rfl rfl (ub4 b x) ?_)
   refine aa rfl (bp rfl rfl (List.length_map _)) ?_
   refine aa rfl (cg rfl rfl rfl (by omega)) ?_
   refine yA rfl rfl ?_
   refine yN ?_
   dsimp only [St.put]
   refine K10 _ ?_
   refine yR ?_
   refine yM rfl rfl ?_
   refine yM rfl rfl ?_
   refine aa rfl (lz rfl rfl) ?_
   refine yF rfl rfl rfl rfl ?_
   refine yL rfl rfl rfl ?_
   refine yM rfl rfl ?_
   refine aa rfl (cb rfl rfl rfl rfl (ca (by assumption)) (Enc.len _)) ?_
   refine yL rfl rfl rfl ?_
   refine aa rfl (bp rfl rfl (List.length_map _)) ?_
   refine aa rfl (cg rfl rfl rfl (by omega)) ?_
   refine yA rfl rfl ?_
   refine yN ?_
   dsimp only [St.put]
   refine K7 _ ?_
   refine yR ?_
   refine aa rfl (cg rfl rfl rfl (by omega)) ?_
   refine yM rfl rfl ?_
   refine yN ?_
   dsimp only [St.put]
   have e1 := ti (g := gm b (i : Int)) hx
   have e2 := ti (g := iy p.text b (i : Int)) hx
   first
   | (have z : el b x = (i : Int) := hyes
      rw [show ((d7 (p.pages.take k) (gm b (i : Int)) : Nat) : Int) + ((di b x).length : Int) = ((d7 (p.pages.take (k + 1)) (gm b (i : Int)) : Nat) : Int) by rw [e1]; unfold gm; rw [decide_eq_true z, cond_true]; rfl, show ((d7 (p.pages.take k) (iy p.text b (i : Int)) : Nat) : Int) + ((ey p.text x).length : Int) = ((d7 (p.pages.take (k + 1)) (iy p.text b (i : Int)) : Nat) : Int) by rw [e2]; unfold iy; rw [decide_eq_true z, cond_true]; rfl]
      exact ⟨k + 1, by omega, by omega, ⟨⟨rfl, rfl⟩, zF, zB, zN, zX⟩⟩)
   | (have z : ¬ el b x = (i : Int) := hno
      rw [show d7 (p.pages.take k) (gm b (i : Int)) = d7 (p.pages.take (k + 1)) (gm b (i : Int)) by rw [e1]; unfold gm; rw [decide_eq_false z]; rfl, show d7 (p.pages.take k) (iy p.text b (i : Int)) = d7 (p.pages.take (k + 1)) (iy p.text b (i : Int)) by rw [e2]; unfold iy; rw [decide_eq_false z]; rfl]
      exact ⟨k + 1, by omega, by omega, ⟨⟨rfl, rfl⟩, zF, zB, zN, zX⟩⟩)
  have hno : ¬ el b x = (i : Int) := of_decide_eq_false hc
  refine ax ?_
  refine K7 _ ?_
  refine yR ?_
  refine aa rfl (cg rfl rfl rfl (by omega)) ?_
  refine yM rfl rfl ?_
  refine yN ?_
  dsimp only [St.put]
  have e1 := ti (g := gm b (i : Int)) hx
  have e2 := ti (g := iy p.text b (i : Int)) hx
  first
  | (have z : el b x = (i : Int) := hyes
     rw [show ((d7 (p.pages.take k) (gm b (i : Int)) : Nat) : Int) + ((di b x).length : Int) = ((d7 (p.pages.take (k + 1)) (gm b (i : Int)) : Nat) : Int) by rw [e1]; unfold gm; rw [decide_eq_true z, cond_true]; rfl, show ((d7 (p.pages.take k) (iy p.text b (i : Int)) : Nat) : Int) + ((ey p.text x).length : Int) = ((d7 (p.pages.take (k + 1)) (iy p.text b (i : Int)) : Nat) : Int) by rw [e2]; unfold iy; rw [decide_eq_true z, cond_true]; rfl]
     exact ⟨k + 1, by omega, by omega, ⟨⟨rfl, rfl⟩, zF, zB, zN, zX⟩⟩)
  | (have z : ¬ el b x = (i : Int) := hno
     rw [show d7 (p.pages.take k) (gm b (i : Int)) = d7 (p.pages.take (k + 1)) (gm b (i : Int)) by rw [e1]; unfold gm; rw [decide_eq_false z]; rfl, show d7 (p.pages.take k) (iy p.text b (i : Int)) = d7 (p.pages.take (k + 1)) (iy p.text b (i : Int)) by rw [e2]; unfold iy; rw [decide_eq_false z]; rfl]
     exact ⟨k + 1, by omega, by omega, ⟨⟨rfl, rfl⟩, zF, zB, zN, zX⟩⟩)
 replace hc := of_decide_eq_false hc
 obtain rfl : k = p.pages.length := by omega
 rw [gw (Nat.le_refl p.pages.length)]
 refine dj ?_
 refine K3 _ ?_
 refine yS fun _ K11 => ?_
 refine g8 [(0, none), (1, none), (2, none), (3, none), (4, none), (5, none), (6, none), (7, none), (9, none), (8, none), (10, none), (11, none), (12, none), (13, none), (14, none), (15, none)] (fun i => [8, 12].contains i) (fun i => [8, 12].contains i) (fun i => [0, 1, 2, 4, 5, 6, 9, 10, 11, 13, 14, 15].contains i) [] (by kernel_rfl) (by kernel_rfl) ?_
 refine xM rfl rfl rfl rfl rfl ?_
 refine ah rfl rfl rfl rfl (zr rfl rfl rfl (by omega)) ?_
 refine ah rfl rfl rfl rfl (ce rfl rfl rfl) ?_
 try dsimp only [St.put]
 refine aw rfl rfl rfl rfl (bq rfl rfl) ?_
 refine xM rfl rfl rfl rfl rfl ?_
 refine ah rfl rfl rfl rfl (lz rfl rfl) ?_
 refine ah rfl rfl rfl rfl (ce rfl rfl rfl) ?_
 try dsimp only [St.put]
 refine aw rfl rfl rfl rfl (c := val p) (ju (cs := ku p) rfl rfl (show 4 ≤ 7 by decide)) ?_
 refine xM rfl rfl rfl rfl rfl ?_
 refine jf ?_
 try dsimp only [St.put]
 refine g9 rfl rfl rfl rfl (ay rfl rfl rfl (pn b p) ?_)
 try dsimp only [St.put]
 refine ed rfl rfl rfl rfl (cb rfl rfl rfl rfl (ca (by assumption)) (Enc.len _)) ?_
 refine ed rfl rfl rfl rfl (ce rfl rfl rfl) ?_
 try dsimp only [St.put]
 refine g9 rfl rfl rfl rfl (SStep.e' (D := fun _ => True) (bq rfl rfl) ?_)
 refine ed rfl rfl rfl rfl (i0 rfl rfl rfl (by omega)) ?_
 refine ed rfl rfl rfl rfl (zq rfl rfl rfl (by omega) (by omega)) ?_
 refine ed rfl rfl rfl rfl (cz rfl (by constructor)) ?_
 refine je ?_
 dsimp only [St.put]
 rw [show (100 * ((d7 p.pages (gm b (i : Int)) : Nat) : Int)) / (100 - r.miss) = na p b i by unfold na; rw [hmr]]
 have hbd := ufv h b i
 refine K11 _ ?_
 refine yS fun _ K12 => ?_
 refine yR ?_
 refine yM rfl rfl ?_
 refine yM rfl rfl ?_
 refine yM rfl rfl ?_
 refine aa rfl (i0 rfl rfl rfl (by omega)) ?_
 refine yA rfl rfl ?_
 refine yA rfl rfl ?_
 refine yN ?_
 dsimp only [St.put]
 refine K12 _ ?_
 refine aq ?_
 refine i6 rfl (by constructor) (by constructor) zN zS ?_ ?_
 ·rfl
 exact vi (by unfold mo; rfl)
end Go.Proofs.YtbbdginipiljdaaDoor
namespace Go.AB
open Go Go.RowKit
open Go.AB.Enc (cells)
open Go.PB (av ai PlaceD az bf ba bl am af co bj dc dg)
theorem ujl {p : af} (h : ez p) {j : Nat} {x : am} (hx : p.pages[j]? = some x) {k : Nat} (hk : k < (da p x).length) : ∃ zn : Nat, (da p x)[k]? = some (zn : Int) ∧ zn ≤ 6 := by
 have hp := pageB_true.1 (h.page j x hx)
 have h1 := hp.fst
 have h2 := hp.snd
 have h3 := h.nf
 have h4 := h.ns
 obtain ⟨z, hz⟩ : ∃ z, (da p x)[k]? = some z := ⟨_, List.getElem?_eq_getElem hk⟩
 have hm := List.mem_of_getElem? hz
 have hb : 0 ≤ z ∧ z ≤ 6 := by
  unfold da at hm
  rw [List.mem_append] at hm
  rcases hm with hm | hm
  ·by_cases q : 0 ≤ x.fst
   ·rw [decide_eq_true q, cond_true, List.mem_singleton] at hm; omega
   rw [decide_eq_false q] at hm; cases hm
  by_cases q : 0 ≤ x.snd
  ·rw [decide_eq_true q, cond_true, List.mem_singleton] at hm; omega
  rw [decide_eq_false q] at hm; cases hm
 exact ⟨z.toNat, by rw [hz]; congr 1; omega, by omega⟩
theorem zb (p : af) (x : am) : (da p x).length ≤ 2 := by
 unfold da
 rw [List.length_append]
 cases decide (0 ≤ x.fst) <;> cases decide (0 ≤ x.snd) <;> simp
end Go.AB
namespace Go.Proofs.YtbbdginipiljdaaDoor
set_option maxRecDepth 10000
open Go.RowKit Go.AB
open Go.AB.Enc (cells)
open Go.PB (av ai PlaceD az bf ba bl am af co bj dc dg)
end Go.Proofs.YtbbdginipiljdaaDoor
namespace Go.Proofs.YtbbdginipiljdaaDoor
set_option maxRecDepth 10000
open Go.RowKit Go.AB
open Go.AB.Enc (cells)
open Go.PB (av ai PlaceD az bf ba bl am af co bj dc dg)
end Go.Proofs.YtbbdginipiljdaaDoor
namespace Go.AB
open Go Go.RowKit
open Go.AB.Enc (cells)
open Go.PB (av ai PlaceD az bf ba)
theorem lt3 {a b c a' b' c' : Int} : fg [a, b, c] [a', b', c'] < 0 ↔ a < a' ∨ a = a' ∧ (b < b' ∨ b = b' ∧ c < c') := by
 rw [oe (a := [a, b, c]) (b := [a', b', c']) rfl]; simp [ltW]
end Go.AB
namespace Go.Proofs.YtbbdginipiljdaaDoor
set_option maxRecDepth 10000
open Go.RowKit Go.AB
open Go.AB.Enc (cells)
open Go.PB (av ai PlaceD az bf ba)
theorem ugy (a b : PlaceD) : Pure Tryd.prog 102 [val a, val b] (.v (.bool (decide (fg (c6 a) (c6 b) < 0)))) := by
 refine c5 Tryd.func102 rfl (fun m => .v) fun G nx => ?_
 simp only [Tryd.ntmps102, List.length_cons, List.length_nil, Nat.reduceAdd, Nat.reduceSub]
 refine bu fun hlt => ?_
 dsimp only at hlt
 refine yS fun _ K1 => ?_
 refine yR ?_
 try dsimp only [St.put]
 refine yB rfl rfl rfl ?_
 try dsimp only [St.put]
 refine yB rfl rfl rfl ?_
 refine yA rfl rfl ?_
 refine yN ?_
 dsimp only [St.put]
 refine K1 _ ?_
 refine yS fun _ K2 => ?_
 refine yS fun _ K3 => ?_
 refine yR ?_
 refine yF rfl rfl rfl rfl ?_
 refine yL rfl rfl rfl ?_
 refine yF rfl rfl rfl rfl ?_
 refine yL rfl rfl rfl ?_
 refine aa rfl (ff rfl rfl rfl) ?_
 refine yN ?_
 dsimp only [St.put]
 refine K3 _ ?_
 refine ar rfl (fun hc => ?_) (fun hc => ?_)
 ·have h1 : a.ch ≠ b.ch := j8 hc
  refine yS fun _ K4 => ?_
  refine yR ?_
  refine yF rfl rfl rfl rfl ?_
  refine yL rfl rfl rfl ?_
  refine yF rfl rfl rfl rfl ?_
  refine yL rfl rfl rfl ?_
  refine aa rfl (cv rfl rfl rfl) ?_
  refine yA rfl rfl ?_
  refine yN ?_
  dsimp only [St.put]
  refine K4 _ ?_
  refine aq ?_
  refine bh rfl (by constructor) zN zS ?_
  exact vb (by rw [decide_eq_decide, c6, c6, lt3]; omega)
 have h1 : a.ch = b.ch := ip hc
 refine ax ?_
 refine K2 _ ?_
 refine yS fun _ K5 => ?_
 refine yS fun _ K6 => ?_
 refine yR ?_
 refine yF rfl rfl rfl rfl ?_
 refine yL rfl rfl rfl ?_
 refine yF rfl rfl rfl rfl ?_
 refine yL rfl rfl rfl ?_
 refine aa rfl (ff rfl rfl rfl) ?_
 refine yN ?_
 dsimp only [St.put]
 refine K6 _ ?_
 refine ar rfl (fun hc => ?_) (fun hc => ?_)
 ·have h2 : a.ln ≠ b.ln := j8 hc
  refine yS fun _ K7 => ?_
  refine yR ?_
  refine yF rfl rfl rfl rfl ?_
  refine yL rfl rfl rfl ?_
  refine yF rfl rfl rfl rfl ?_
  refine yL rfl rfl rfl ?_
  refine aa rfl (cv rfl rfl rfl) ?_
  refine yA rfl rfl ?_
  refine yN ?_
  dsimp only [St.put]
  refine K7 _ ?_
  refine aq ?_
  refine bh rfl (by constructor) zN zS ?_
  exact vb (by rw [decide_eq_decide, c6, c6, lt3]; omega)
 have h2 : a.ln = b.ln := ip hc
 refine ax ?_
 refine K5 _ ?_
 refine yS fun _ K8 => ?_
 refine yR ?_
 refine yF rfl rfl rfl rfl ?_
 refine yL rfl rfl rfl ?_
 refine yF rfl rfl rfl rfl ?_
 refine yL rfl rfl rfl ?_
 refine aa rfl (cv rfl rfl rfl) ?_
 refine yA rfl rfl ?_
 refine yN ?_
 dsimp only [St.put]
 refine K8 _ ?_
 refine aq ?_
 refine bh rfl (by constructor) zN zS ?_
 exact vb (by rw [decide_eq_decide, c6, c6, lt3]; omega)
end Go.Proofs.YtbbdginipiljdaaDoor
namespace Go.Proofs.YtbbdginipiljdaaDoor
set_option maxRecDepth 10000
open Go.RowKit Go.AB
open Go.AB.Enc (cells)
open Go.PB (av ai PlaceD az bf ba bl am af co bj dc dg)
set_option maxHeartbeats 1000000 in
theorem ucg (t : ai) (x : am) (r : Int) (l : List PlaceD) (ht : dv t = true) : Pure Tryd.prog 79 [gu t, val x, .v (.int .i64 r), lst l] (.v (.bool (ig t x r l))) := by
 refine c5 Tryd.func79 rfl (fun m => .v) fun G nx => ?_
 simp only [Tryd.ntmps79, List.length_cons, List.length_nil, Nat.reduceAdd, Nat.reduceSub]
 refine bu fun hlt => ?_
 dsimp only at hlt
 refine lh 3 (fun hfl => ?_)
 have hl0 := (fit_lst.1 hfl).1
 refine yS fun _ K1 => ?_
 refine yR ?_
 try dsimp only [St.put]
 refine yB rfl rfl rfl ?_
 try dsimp only [St.put]
 refine yB rfl rfl rfl ?_
 refine yA rfl rfl ?_
 refine yN ?_
 dsimp only [St.put]
 refine K1 _ ?_
 refine yS fun _ K2 => ?_
 refine yS fun _ K3 => ?_
 refine yR ?_
 refine yM rfl rfl ?_
 refine aa rfl (cv rfl rfl rfl) ?_
 refine eg (fun hs => ?_) (fun hs => ?_)
 ·have s1 : r < 0 := of_decide_eq_true hs
  refine yM rfl rfl ?_
  refine yM rfl rfl ?_
  refine aa rfl (bp rfl rfl (List.length_map _)) ?_
  refine aa rfl (iq rfl rfl rfl) ?_
  refine aa rfl (bz rfl rfl (by constructor)) ?_
  refine yN ?_
  dsimp only [St.put]
  refine K3 _ ?_
  refine ar rfl (fun hc => ?_) (fun hc => ?_)
  ·have s2 : 0 < l.length := by
    have := of_decide_eq_true hc
    omega
   refine yS fun _ K4 => ?_
   refine yR ?_
   refine yA rfl rfl ?_
   refine yN ?_
   dsimp only [St.put]
   refine K4 _ ?_
   refine aq ?_
   refine bh rfl (by constructor) zN zS ?_
   exact vb (by
    have e1 : ¬ 0 ≤ r := by omega
    have e2 : l ≠ [] := fun e => by rw [e] at s2; exact absurd s2 (by simp)
    simp [ig, e1, e2])
  have s3 : (decide (0 ≤ r) || decide (l = [])) = true := by
   first
   | (rw [decide_eq_true (show 0 ≤ r by omega)]; rfl)
   | (have := of_decide_eq_false hc
      have : l = [] := List.eq_nil_of_length_eq_zero (by omega)
      simp [this])
  refine ax ?_
  refine K2 _ ?_
  refine yS fun _ K5 => ?_
  refine yS fun _ K6 => ?_
  refine yR ?_
  refine yA rfl rfl ?_
  refine yN ?_
  dsimp only [St.put]
  refine K6 _ ?_
  refine bk ?_
  refine cp 10 ?_
  refine zQ ?_
  refine dq (G) zX ?_
  dsimp only
  refine dp (X := Nat) (fun i => i ≤ l.length ∧ dt t x l i = true) (fun i => l.length - i) (fun i => [(9, .v (.int .i64 (i : Int)))]) (fun i G' => G') 0 rfl ?_ ?_ (fun _ _ h => h) ?_ ?_ ?_
  ·exact ⟨Nat.zero_le _, rfl⟩
  ·exact zF
  ·rintro i hI
   exact zL
  ·exact fun _ _ _ _ h => .inl h
  rintro i hI
  dsimp only at hI ⊢
  refine yS fun _ K7 => ?_
  refine yS fun _ K8 => ?_
  refine yR ?_
  refine yM rfl rfl ?_
  refine yM rfl rfl ?_
  refine aa rfl (bp rfl rfl (List.length_map _)) ?_
  refine aa rfl (cv rfl rfl rfl) ?_
  refine yN ?_
  dsimp only [St.put]
  refine K8 _ ?_
  refine ar rfl (fun hc => ?_) (fun hc => ?_)
  ·replace hc := of_decide_eq_true hc
   obtain ⟨q, hq⟩ : ∃ q, l[i]? = some q := dr (by omega)
   refine ax ?_
   refine K7 _ ?_
   refine yS fun _ K9 => ?_
   refine bk ?_
   refine cp 10 ?_
   refine zQ ?_
   refine kj (X := Bool) (fun d => jl t x l i = !d) (fun d => [(60, .v (.bool d))]) (fun d G' => G') rfl ?_ (fun _ _ _ _ h => .inl h) ?_ ?_
   ·rintro d hI
    exact zL
   ·refine qi [(0, none), (1, none), (2, none), (3, none), (4, none)] (fun _ => false) (fun i => [1, 2, 3].contains i) 33 (rl [5, 33]) (by kernel_rfl) (by kernel_rfl) ?_
    try dsimp only [St.put]
    refine aw rfl rfl rfl rfl (dl rfl rfl rfl) ?_
    refine xM rfl rfl rfl rfl rfl ?_
    refine xM rfl rfl rfl rfl rfl ?_
    try dsimp only [St.put]
    refine ah rfl rfl rfl rfl (cb rfl rfl rfl rfl (ca (by assumption)) (Enc.len _)) ?_
    try dsimp only [St.put]
    refine aw rfl rfl rfl rfl (dl rfl rfl (Enc.len _)) ?_
    refine cn ?_
    refine c7 [5] (by kernel_rfl) (by simp) ?_
    refine dz ?_ ?_
    ·try dsimp only [St.put]
     refine gk rfl rfl rfl (ay rfl rfl rfl (ugu t q ht) ?_)
     refine ep [(6, none), (7, none), (8, none), (9, none), (10, none), (11, none), (12, none), (14, none), (15, none), (16, none), (17, none)] (fun i => [6, 7, 9, 10, 11, 14, 16].contains i) 21 (rl [13, 1, 4, 20]) (by kernel_rfl) ?_
     refine ah rfl rfl rfl rfl (eb rfl rfl) ?_
     refine j6 (fun hs => ?_) (fun hs => ?_)
     ·have s4 := hs
      refine xM rfl rfl rfl rfl rfl ?_
      refine aj rfl rfl rfl ?_
      refine aj rfl rfl rfl ?_
      refine aj rfl rfl rfl ?_
      refine aj rfl rfl rfl ?_
      refine aj rfl rfl rfl ?_
      refine aj rfl rfl rfl ?_
      refine aj rfl rfl rfl ?_
      refine aj rfl rfl rfl ?_
      refine aj rfl rfl rfl ?_
      refine cn ?_
      refine c7 [13] (by kernel_rfl) (by simp) ?_
      refine dz ?_ ?_
      ·refine ge rfl rfl rfl ?_
       refine c7 [18] (by kernel_rfl) (by simp) ?_
       refine dz ?_ ?_
       ·refine ge rfl rfl rfl ?_
        refine ep [(19, none), (20, none), (21, none), (22, none), (23, none), (24, none), (25, none), (26, none), (27, none), (28, none), (29, none), (30, none), (31, none), (32, none), (33, none)] (fun i => [19, 20, 21, 22, 23, 24, 25, 26, 27, 28, 30, 31, 32].contains i) 4 (rl [34, 4]) (by kernel_rfl) ?_
        refine aj rfl rfl rfl ?_
        refine ah rfl rfl rfl rfl (bz rfl rfl (by constructor)) ?_
        refine xM rfl rfl rfl rfl rfl ?_
        refine aj rfl rfl rfl ?_
        refine aj rfl rfl rfl ?_
        refine aj rfl rfl rfl ?_
        refine aj rfl rfl rfl ?_
        refine aj rfl rfl rfl ?_
        refine aj rfl rfl rfl ?_
        refine aj rfl rfl rfl ?_
        refine aj rfl rfl rfl ?_
        refine aj rfl rfl rfl ?_
        refine aj rfl rfl rfl ?_
        refine aj rfl rfl rfl ?_
        refine aj rfl rfl rfl ?_
        refine cn ?_
        refine c7 [34] (by kernel_rfl) (by simp) ?_
        refine dz ?_ ?_
        ·refine ge rfl rfl rfl ?_
         refine ep [(35, none), (36, none), (37, none)] (fun i => [35, 36, 37].contains i) 0 (rl [38]) (by kernel_rfl) ?_
         refine aj rfl rfl rfl ?_
         refine aj rfl rfl rfl ?_
         refine ah rfl rfl rfl rfl (bz rfl rfl (by constructor)) ?_
         refine cn ?_
         dsimp only [St.put]
         refine ia (by kernel_rfl) ?_
         refine ⟨_, ?_, ⟨⟨rfl, rfl⟩, zF, zB, zN, zX⟩⟩
         simp_all [jl, ib, ne]
         try (intro h0; omega)
        exact dx
       exact dx
      exact dx
     have hqp : fy t q = true := by simpa using hs
     refine xM rfl rfl rfl rfl rfl ?_
     try dsimp only [St.put]
     refine aw rfl rfl rfl rfl (dl rfl rfl rfl) ?_
     refine xM rfl rfl rfl rfl rfl ?_
     refine xM rfl rfl rfl rfl rfl ?_
     try dsimp only [St.put]
     refine ah rfl rfl rfl rfl (cb rfl rfl rfl rfl (ca (by assumption)) (Enc.len _)) ?_
     try dsimp only [St.put]
     refine aw rfl rfl rfl rfl (dl rfl rfl (Enc.len _)) ?_
     refine ah rfl rfl rfl rfl (ce rfl rfl rfl) ?_
     try dsimp only [St.put]
     refine aw rfl rfl rfl rfl (bq rfl rfl) ?_
     refine ah rfl rfl rfl rfl (ce rfl rfl rfl) ?_
     try dsimp only [St.put]
     refine aw rfl rfl rfl rfl (bq rfl rfl) ?_
     refine cn ?_
     refine c7 [13] (by kernel_rfl) (by simp) ?_
     refine dz ?_ ?_
     ·try dsimp only [St.put]
      refine gk rfl rfl rfl (ay rfl rfl rfl (uci t q ht hqp) ?_)
      refine c7 [18] (by kernel_rfl) (by simp) ?_
      refine dz ?_ ?_
      ·try dsimp only [St.put]
       refine gk rfl rfl rfl (ay rfl rfl rfl (rr _ _ _) ?_)
       refine ep [(19, none), (20, none), (21, none), (22, none), (23, none), (24, none), (25, none), (26, none), (27, none), (28, none), (29, none), (30, none), (31, none), (32, none), (33, none)] (fun i => [19, 20, 21, 22, 23, 24, 25, 26, 27, 28, 30, 31, 32].contains i) 4 (rl [34, 4]) (by kernel_rfl) ?_
       refine ah rfl rfl rfl rfl (eb rfl rfl) ?_
       refine j6 (fun hs => ?_) (fun hs => ?_)
       ·have s5 := hs
        refine ah rfl rfl rfl rfl (ck rfl rfl (by constructor)) ?_
        refine xM rfl rfl rfl rfl rfl ?_
        refine aj rfl rfl rfl ?_
        refine aj rfl rfl rfl ?_
        refine aj rfl rfl rfl ?_
        refine aj rfl rfl rfl ?_
        refine aj rfl rfl rfl ?_
        refine aj rfl rfl rfl ?_
        refine aj rfl rfl rfl ?_
        refine aj rfl rfl rfl ?_
        refine aj rfl rfl rfl ?_
        refine aj rfl rfl rfl ?_
        refine aj rfl rfl rfl ?_
        refine aj rfl rfl rfl ?_
        refine cn ?_
        refine c7 [34] (by kernel_rfl) (by simp) ?_
        refine dz ?_ ?_
        ·refine ge rfl rfl rfl ?_
         refine ep [(35, none), (36, none), (37, none)] (fun i => [35, 36, 37].contains i) 0 (rl [38]) (by kernel_rfl) ?_
         refine aj rfl rfl rfl ?_
         refine aj rfl rfl rfl ?_
         refine ah rfl rfl rfl rfl (bz rfl rfl (by constructor)) ?_
         refine cn ?_
         dsimp only [St.put]
         refine ia (by kernel_rfl) ?_
         refine ⟨_, ?_, ⟨⟨rfl, rfl⟩, zF, zB, zN, zX⟩⟩
         simp_all [jl, ib, ne]
         try (intro h0; omega)
        exact dx
       have s5 := hs
       refine ah rfl rfl rfl rfl (ck rfl rfl (by constructor)) ?_
       refine xM rfl rfl rfl rfl rfl ?_
       refine xM rfl rfl rfl rfl rfl ?_
       refine ah rfl rfl rfl rfl (iq rfl rfl rfl) ?_
       refine j6 (fun hs => ?_) (fun hs => ?_)
       ·have s6 : 0 < i := by
         have := of_decide_eq_true hs
         omega
        obtain ⟨q0, hq0⟩ : ∃ q0, l[i - 1]? = some q0 := dr (by omega)
        refine xM rfl rfl rfl rfl rfl ?_
        refine xM rfl rfl rfl rfl rfl ?_
        refine xM rfl rfl rfl rfl rfl ?_
        refine ah rfl rfl rfl rfl (i0 rfl rfl rfl (by omega)) ?_
        try dsimp only [St.put]
        refine ah rfl rfl rfl rfl (cb (k := i - 1) rfl rfl rfl (by omega) (ca hq0) (Enc.len _)) ?_
        try dsimp only [St.put]
        refine aw rfl rfl rfl rfl (dl rfl rfl (Enc.len _)) ?_
        refine xM rfl rfl rfl rfl rfl ?_
        refine xM rfl rfl rfl rfl rfl ?_
        try dsimp only [St.put]
        refine ah rfl rfl rfl rfl (cb rfl rfl rfl rfl (ca (by assumption)) (Enc.len _)) ?_
        try dsimp only [St.put]
        refine aw rfl rfl rfl rfl (dl rfl rfl (Enc.len _)) ?_
        refine cn ?_
        refine c7 [34] (by kernel_rfl) (by simp) ?_
        refine dz ?_ ?_
        ·try dsimp only [St.put]
         refine gk rfl rfl rfl (ay rfl rfl rfl (ugy q0 q) ?_)
         refine ep [(35, none), (36, none), (37, none)] (fun i => [35, 36, 37].contains i) 0 (rl [38]) (by kernel_rfl) ?_
         refine ah rfl rfl rfl rfl (eb rfl rfl) ?_
         refine ah rfl rfl rfl rfl (bz rfl rfl (by constructor)) ?_
         refine ah rfl rfl rfl rfl (ck rfl rfl (by constructor)) ?_
         refine cn ?_
         dsimp only [St.put]
         refine ia (by kernel_rfl) ?_
         refine ⟨_, ?_, ⟨⟨rfl, rfl⟩, zF, zB, zN, zX⟩⟩
         simp_all [jl, ib, ne]
         try (intro h0; omega)
        exact dx
       have s6 : i = 0 := by
        have := of_decide_eq_false hs
        omega
       refine xM rfl rfl rfl rfl rfl ?_
       refine aj rfl rfl rfl ?_
       refine aj rfl rfl rfl ?_
       refine aj rfl rfl rfl ?_
       refine aj rfl rfl rfl ?_
       refine aj rfl rfl rfl ?_
       refine aj rfl rfl rfl ?_
       refine aj rfl rfl rfl ?_
       refine aj rfl rfl rfl ?_
       refine aj rfl rfl rfl ?_
       refine cn ?_
       refine c7 [34] (by kernel_rfl) (by simp) ?_
       refine dz ?_ ?_
       ·refine ge rfl rfl rfl ?_
        refine ep [(35, none), (36, none), (37, none)] (fun i => [35, 36, 37].contains i) 0 (rl [38]) (by kernel_rfl) ?_
        refine aj rfl rfl rfl ?_
        refine ah rfl rfl rfl rfl (ck rfl rfl (by constructor)) ?_
        refine ah rfl rfl rfl rfl (ck rfl rfl (by constructor)) ?_
        refine cn ?_
        dsimp only [St.put]
        refine ia (by kernel_rfl) ?_
        refine ⟨_, ?_, ⟨⟨rfl, rfl⟩, zF, zB, zN, zX⟩⟩
        simp_all [jl, ib, ne]
        try (intro h0; omega)
       exact dx
      exact dx
     exact dx
    exact dx
   rintro d hst
   dsimp only at hst ⊢
   refine ar rfl (fun hc => ?_) (fun hc => ?_)
   ·skip
    refine yS fun _ K11 => ?_
    refine yR ?_
    refine yA rfl rfl ?_
    refine yN ?_
    dsimp only [St.put]
    refine K11 _ ?_
    refine aq ?_
    refine bh rfl (by constructor) zN zS ?_
    exact vb (by
     have e : jl t x l i = false := by rw [hst, hc]; rfl
     have : dt t x l l.length = false := by
      refine List.all_eq_false.2 ⟨i, List.mem_range.2 (by omega), by rw [e]; simp⟩
     simp [ig, this])
   skip
   refine ax ?_
   refine K9 _ ?_
   refine yR ?_
   refine yM rfl rfl ?_
   refine aa rfl (cg rfl rfl rfl (by omega)) ?_
   refine yA rfl rfl ?_
   refine yN ?_
   dsimp only [St.put]
   exact ⟨i + 1, by omega, ⟨by omega, by rw [gy, hI.2, hst, hc]; rfl⟩, ⟨⟨rfl, rfl⟩, zF, zB, zN, zX⟩⟩
  replace hc := of_decide_eq_false hc
  obtain rfl : i = l.length := by omega
  refine dj ?_
  refine K5 _ ?_
  refine yS fun _ K12 => ?_
  refine yR ?_
  refine yA rfl rfl ?_
  refine yN ?_
  dsimp only [St.put]
  refine K12 _ ?_
  refine aq ?_
  refine bh rfl (by constructor) zN zS ?_
  exact vb (by
   unfold ig
   rw [hI.2, Bool.and_true]
   first
   | exact s3.symm
   | (have e1 : 0 ≤ r := by omega
      simp [e1]))
 have s1 : ¬ r < 0 := of_decide_eq_false hs
 refine yM rfl rfl ?_
 refine yK rfl ?_
 refine yK rfl ?_
 refine yK rfl ?_
 refine aa rfl (ck rfl rfl (by constructor)) ?_
 refine yN ?_
 dsimp only [St.put]
 refine K3 _ ?_
 refine ar rfl (fun h => by cases h) (fun _ => ?_)
 have s3 : (decide (0 ≤ r) || decide (l = [])) = true := by
  first
  | (rw [decide_eq_true (show 0 ≤ r by omega)]; rfl)
  | (have := of_decide_eq_false hc
     have : l = [] := List.eq_nil_of_length_eq_zero (by omega)
     simp [this])
 refine ax ?_
 refine K2 _ ?_
 refine yS fun _ K13 => ?_
 refine yS fun _ K14 => ?_
 refine yR ?_
 refine yA rfl rfl ?_
 refine yN ?_
 dsimp only [St.put]
 refine K14 _ ?_
 refine bk ?_
 refine cp 10 ?_
 refine zQ ?_
 refine dq (G) zX ?_
 dsimp only
 refine dp (X := Nat) (fun i => i ≤ l.length ∧ dt t x l i = true) (fun i => l.length - i) (fun i => [(9, .v (.int .i64 (i : Int)))]) (fun i G' => G') 0 rfl ?_ ?_ (fun _ _ h => h) ?_ ?_ ?_
 ·exact ⟨Nat.zero_le _, rfl⟩
 ·exact zF
 ·rintro i hI
  exact zL
 ·exact fun _ _ _ _ h => .inl h
 rintro i hI
 dsimp only at hI ⊢
 refine yS fun _ K15 => ?_
 refine yS fun _ K16 => ?_
 refine yR ?_
 refine yM rfl rfl ?_
 refine yM rfl rfl ?_
 refine aa rfl (bp rfl rfl (List.length_map _)) ?_
 refine aa rfl (cv rfl rfl rfl) ?_
 refine yN ?_
 dsimp only [St.put]
 refine K16 _ ?_
 refine ar rfl (fun hc => ?_) (fun hc => ?_)
 ·replace hc := of_decide_eq_true hc
  obtain ⟨q, hq⟩ : ∃ q, l[i]? = some q := dr (by omega)
  refine ax ?_
  refine K15 _ ?_
  refine yS fun _ K17 => ?_
  refine bk ?_
  refine cp 10 ?_
  refine zQ ?_
  refine kj (X := Bool) (fun d => jl t x l i = !d) (fun d => [(60, .v (.bool d))]) (fun d G' => G') rfl ?_ (fun _ _ _ _ h => .inl h) ?_ ?_
  ·rintro d hI
   exact zL
  ·refine qi [(0, none), (1, none), (2, none), (3, none), (4, none)] (fun _ => false) (fun i => [1, 2, 3].contains i) 33 (rl [5, 33]) (by kernel_rfl) (by kernel_rfl) ?_
   try dsimp only [St.put]
   refine aw rfl rfl rfl rfl (dl rfl rfl rfl) ?_
   refine xM rfl rfl rfl rfl rfl ?_
   refine xM rfl rfl rfl rfl rfl ?_
   try dsimp only [St.put]
   refine ah rfl rfl rfl rfl (cb rfl rfl rfl rfl (ca (by assumption)) (Enc.len _)) ?_
   try dsimp only [St.put]
   refine aw rfl rfl rfl rfl (dl rfl rfl (Enc.len _)) ?_
   refine cn ?_
   refine c7 [5] (by kernel_rfl) (by simp) ?_
   refine dz ?_ ?_
   ·try dsimp only [St.put]
    refine gk rfl rfl rfl (ay rfl rfl rfl (ugu t q ht) ?_)
    refine ep [(6, none), (7, none), (8, none), (9, none), (10, none), (11, none), (12, none), (14, none), (15, none), (16, none), (17, none)] (fun i => [6, 7, 9, 10, 11, 14, 16].contains i) 21 (rl [13, 1, 4, 20]) (by kernel_rfl) ?_
    refine ah rfl rfl rfl rfl (eb rfl rfl) ?_
    refine j6 (fun hs => ?_) (fun hs => ?_)
    ·have s4 := hs
     refine xM rfl rfl rfl rfl rfl ?_
     refine aj rfl rfl rfl ?_
     refine aj rfl rfl rfl ?_
     refine aj rfl rfl rfl ?_
     refine aj rfl rfl rfl ?_
     refine aj rfl rfl rfl ?_
     refine aj rfl rfl rfl ?_
     refine aj rfl rfl rfl ?_
     refine aj rfl rfl rfl ?_
     refine aj rfl rfl rfl ?_
     refine cn ?_
     refine c7 [13] (by kernel_rfl) (by simp) ?_
     refine dz ?_ ?_
     ·refine ge rfl rfl rfl ?_
      refine c7 [18] (by kernel_rfl) (by simp) ?_
      refine dz ?_ ?_
      ·refine ge rfl rfl rfl ?_
       refine ep [(19, none), (20, none), (21, none), (22, none), (23, none), (24, none), (25, none), (26, none), (27, none), (28, none), (29, none), (30, none), (31, none), (32, none), (33, none)] (fun i => [19, 20, 21, 22, 23, 24, 25, 26, 27, 28, 30, 31, 32].contains i) 4 (rl [34, 4]) (by kernel_rfl) ?_
       refine aj rfl rfl rfl ?_
       refine ah rfl rfl rfl rfl (bz rfl rfl (by constructor)) ?_
       refine xM rfl rfl rfl rfl rfl ?_
       refine aj rfl rfl rfl ?_
       refine aj rfl rfl rfl ?_
       refine aj rfl rfl rfl ?_
       refine aj rfl rfl rfl ?_
       refine aj rfl rfl rfl ?_
       refine aj rfl rfl rfl ?_
       refine aj rfl rfl rfl ?_
       refine aj rfl rfl rfl ?_
       refine aj rfl rfl rfl ?_
       refine aj rfl rfl rfl ?_
       refine aj rfl rfl rfl ?_
       refine aj rfl rfl rfl ?_
       refine cn ?_
       refine c7 [34] (by kernel_rfl) (by simp) ?_
       refine dz ?_ ?_
       ·refine ge rfl rfl rfl ?_
        refine ep [(35, none), (36, none), (37, none)] (fun i => [35, 36, 37].contains i) 0 (rl [38]) (by kernel_rfl) ?_
        refine aj rfl rfl rfl ?_
        refine aj rfl rfl rfl ?_
        refine ah rfl rfl rfl rfl (bz rfl rfl (by constructor)) ?_
        refine cn ?_
        dsimp only [St.put]
        refine ia (by kernel_rfl) ?_
        refine ⟨_, ?_, ⟨⟨rfl, rfl⟩, zF, zB, zN, zX⟩⟩
        simp_all [jl, ib, ne]
        try (intro h0; omega)
       exact dx
      exact dx
     exact dx
    have hqp : fy t q = true := by simpa using hs
    refine xM rfl rfl rfl rfl rfl ?_
    try dsimp only [St.put]
    refine aw rfl rfl rfl rfl (dl rfl rfl rfl) ?_
    refine xM rfl rfl rfl rfl rfl ?_
    refine xM rfl rfl rfl rfl rfl ?_
    try dsimp only [St.put]
    refine ah rfl rfl rfl rfl (cb rfl rfl rfl rfl (ca (by assumption)) (Enc.len _)) ?_
    try dsimp only [St.put]
    refine aw rfl rfl rfl rfl (dl rfl rfl (Enc.len _)) ?_
    refine ah rfl rfl rfl rfl (ce rfl rfl rfl) ?_
    try dsimp only [St.put]
    refine aw rfl rfl rfl rfl (bq rfl rfl) ?_
    refine ah rfl rfl rfl rfl (ce rfl rfl rfl) ?_
    try dsimp only [St.put]
    refine aw rfl rfl rfl rfl (bq rfl rfl) ?_
    refine cn ?_
    refine c7 [13] (by kernel_rfl) (by simp) ?_
    refine dz ?_ ?_
    ·try dsimp only [St.put]
     refine gk rfl rfl rfl (ay rfl rfl rfl (uci t q ht hqp) ?_)
     refine c7 [18] (by kernel_rfl) (by simp) ?_
     refine dz ?_ ?_
     ·try dsimp only [St.put]
      refine gk rfl rfl rfl (ay rfl rfl rfl (rr _ _ _) ?_)
      refine ep [(19, none), (20, none), (21, none), (22, none), (23, none), (24, none), (25, none), (26, none), (27, none), (28, none), (29, none), (30, none), (31, none), (32, none), (33, none)] (fun i => [19, 20, 21, 22, 23, 24, 25, 26, 27, 28, 30, 31, 32].contains i) 4 (rl [34, 4]) (by kernel_rfl) ?_
      refine ah rfl rfl rfl rfl (eb rfl rfl) ?_
      refine j6 (fun hs => ?_) (fun hs => ?_)
      ·have s5 := hs
       refine ah rfl rfl rfl rfl (ck rfl rfl (by constructor)) ?_
       refine xM rfl rfl rfl rfl rfl ?_
       refine aj rfl rfl rfl ?_
       refine aj rfl rfl rfl ?_
       refine aj rfl rfl rfl ?_
       refine aj rfl rfl rfl ?_
       refine aj rfl rfl rfl ?_
       refine aj rfl rfl rfl ?_
       refine aj rfl rfl rfl ?_
       refine aj rfl rfl rfl ?_
       refine aj rfl rfl rfl ?_
       refine aj rfl rfl rfl ?_
       refine aj rfl rfl rfl ?_
       refine aj rfl rfl rfl ?_
       refine cn ?_
       refine c7 [34] (by kernel_rfl) (by simp) ?_
       refine dz ?_ ?_
       ·refine ge rfl rfl rfl ?_
        refine ep [(35, none), (36, none), (37, none)] (fun i => [35, 36, 37].contains i) 0 (rl [38]) (by kernel_rfl) ?_
        refine aj rfl rfl rfl ?_
        refine aj rfl rfl rfl ?_
        refine ah rfl rfl rfl rfl (bz rfl rfl (by constructor)) ?_
        refine cn ?_
        dsimp only [St.put]
        refine ia (by kernel_rfl) ?_
        refine ⟨_, ?_, ⟨⟨rfl, rfl⟩, zF, zB, zN, zX⟩⟩
        simp_all [jl, ib, ne]
        try (intro h0; omega)
       exact dx
      have s5 := hs
      refine ah rfl rfl rfl rfl (ck rfl rfl (by constructor)) ?_
      refine xM rfl rfl rfl rfl rfl ?_
      refine xM rfl rfl rfl rfl rfl ?_
      refine ah rfl rfl rfl rfl (iq rfl rfl rfl) ?_
      refine j6 (fun hs => ?_) (fun hs => ?_)
      ·have s6 : 0 < i := by
        have := of_decide_eq_true hs
        omega
       obtain ⟨q0, hq0⟩ : ∃ q0, l[i - 1]? = some q0 := dr (by omega)
       refine xM rfl rfl rfl rfl rfl ?_
       refine xM rfl rfl rfl rfl rfl ?_
       refine xM rfl rfl rfl rfl rfl ?_
       refine ah rfl rfl rfl rfl (i0 rfl rfl rfl (by omega)) ?_
       try dsimp only [St.put]
       refine ah rfl rfl rfl rfl (cb (k := i - 1) rfl rfl rfl (by omega) (ca hq0) (Enc.len _)) ?_
       try dsimp only [St.put]
       refine aw rfl rfl rfl rfl (dl rfl rfl (Enc.len _)) ?_
       refine xM rfl rfl rfl rfl rfl ?_
       refine xM rfl rfl rfl rfl rfl ?_
       try dsimp only [St.put]
       refine ah rfl rfl rfl rfl (cb rfl rfl rfl rfl (ca (by assumption)) (Enc.len _)) ?_
       try dsimp only [St.put]
       refine aw rfl rfl rfl rfl (dl rfl rfl (Enc.len _)) ?_
       refine cn ?_
       refine c7 [34] (by kernel_rfl) (by simp) ?_
       refine dz ?_ ?_
       ·try dsimp only [St.put]
        refine gk rfl rfl rfl (ay rfl rfl rfl (ugy q0 q) ?_)
        refine ep [(35, none), (36, none), (37, none)] (fun i => [35, 36, 37].contains i) 0 (rl [38]) (by kernel_rfl) ?_
        refine ah rfl rfl rfl rfl (eb rfl rfl) ?_
        refine ah rfl rfl rfl rfl (bz rfl rfl (by constructor)) ?_
        refine ah rfl rfl rfl rfl (ck rfl rfl (by constructor)) ?_
        refine cn ?_
        dsimp only [St.put]
        refine ia (by kernel_rfl) ?_
        refine ⟨_, ?_, ⟨⟨rfl, rfl⟩, zF, zB, zN, zX⟩⟩
        simp_all [jl, ib, ne]
        try (intro h0; omega)
       exact dx
      have s6 : i = 0 := by
       have := of_decide_eq_false hs
       omega
      refine xM rfl rfl rfl rfl rfl ?_
      refine aj rfl rfl rfl ?_
      refine aj rfl rfl rfl ?_
      refine aj rfl rfl rfl ?_
      refine aj rfl rfl rfl ?_
      refine aj rfl rfl rfl ?_
      refine aj rfl rfl rfl ?_
      refine aj rfl rfl rfl ?_
      refine aj rfl rfl rfl ?_
      refine aj rfl rfl rfl ?_
      refine cn ?_
      refine c7 [34] (by kernel_rfl) (by simp) ?_
      refine dz ?_ ?_
      ·refine ge rfl rfl rfl ?_
       refine ep [(35, none), (36, none), (37, none)] (fun i => [35, 36, 37].contains i) 0 (rl [38]) (by kernel_rfl) ?_
       refine aj rfl rfl rfl ?_
       refine ah rfl rfl rfl rfl (ck rfl rfl (by constructor)) ?_
       refine ah rfl rfl rfl rfl (ck rfl rfl (by constructor)) ?_
       refine cn ?_
       dsimp only [St.put]
       refine ia (by kernel_rfl) ?_
       refine ⟨_, ?_, ⟨⟨rfl, rfl⟩, zF, zB, zN, zX⟩⟩
       simp_all [jl, ib, ne]
       try (intro h0; omega)
      exact dx
     exact dx
    exact dx
   exact dx
  rintro d hst
  dsimp only at hst ⊢
  refine ar rfl (fun hc => ?_) (fun hc => ?_)
  ·skip
   refine yS fun _ K19 => ?_
   refine yR ?_
   refine yA rfl rfl ?_
   refine yN ?_
   dsimp only [St.put]
   refine K19 _ ?_
   refine aq ?_
   refine bh rfl (by constructor) zN zS ?_
   exact vb (by
    have e : jl t x l i = false := by rw [hst, hc]; rfl
    have : dt t x l l.length = false := by
     refine List.all_eq_false.2 ⟨i, List.mem_range.2 (by omega), by rw [e]; simp⟩
    simp [ig, this])
  skip
  refine ax ?_
  refine K17 _ ?_
  refine yR ?_
  refine yM rfl rfl ?_
  refine aa rfl (cg rfl rfl rfl (by omega)) ?_
  refine yA rfl rfl ?_
  refine yN ?_
  dsimp only [St.put]
  exact ⟨i + 1, by omega, ⟨by omega, by rw [gy, hI.2, hst, hc]; rfl⟩, ⟨⟨rfl, rfl⟩, zF, zB, zN, zX⟩⟩
 replace hc := of_decide_eq_false hc
 obtain rfl : i = l.length := by omega
 refine dj ?_
 refine K13 _ ?_
 refine yS fun _ K20 => ?_
 refine yR ?_
 refine yA rfl rfl ?_
 refine yN ?_
 dsimp only [St.put]
 refine K20 _ ?_
 refine aq ?_
 refine bh rfl (by constructor) zN zS ?_
 exact vb (by
  unfold ig
  rw [hI.2, Bool.and_true]
  first
  | exact s3.symm
  | (have e1 : 0 ≤ r := by omega
     simp [e1]))
end Go.Proofs.YtbbdginipiljdaaDoor
namespace Go.AB
open Go Go.RowKit
open Go.AB.Enc (cells)
open Go.PB (av ai PlaceD az bf ba bl am af co bj dc dg)
def mz (p : af) (last : Int) (x : am) : Bool := decide (last < x.fr) && decide (x.fr ≤ x.to) && decide (x.to < (mx p.text : Int)) && inB x.fst (-1) ((p.firsts.length : Int) - 1) && inB x.snd (-1) ((p.seconds.length : Int) - 1)
theorem wt (p : af) (last : Int) (x : am) : lx p last x = (mz p last x && (ig p.text x x.fst x.found && ig p.text x x.snd x.well)) := by
 unfold lx mz
 cases decide (last < x.fr) <;> cases decide (x.fr ≤ x.to) <;> cases decide (x.to < (mx p.text : Int)) <;> cases inB x.fst (-1) ((p.firsts.length : Int) - 1) <;> cases inB x.snd (-1) ((p.seconds.length : Int) - 1) <;> simp
theorem zd {p : af} {j : Nat} {x : am} (h : p.pages[j]? = some x) : qs p j = lx p (gt p.pages j) x := by unfold qs; rw [h]
theorem ud8 {l : List am} {j : Nat} {x : am} (h : l[j]? = some x) : gt l (j + 1) = x.to := by simp only [gt, h]
theorem wj {p : af} {j : Nat} {x : am} (h : p.pages[j]? = some x) (hb : lx p (gt p.pages j) x = false) : fw p = false := by
 have : qr p p.pages.length = false := List.all_eq_false.2 ⟨j, List.mem_range.2 (List.getElem?_eq_some_iff.1 h).1, by rw [zd h, hb]; simp⟩
 simp [fw, this]
end Go.AB
namespace Go.Proofs.YtbbdginipiljdaaDoor
set_option maxRecDepth 10000
open Go.RowKit Go.AB
open Go.AB.Enc (cells)
open Go.PB (av ai PlaceD az bf ba bl am af co bj dc dg)
set_option maxHeartbeats 2000000 in
theorem ujs (p : af) (ht : dv p.text = true) : Pure Tryd.prog 47 [val p] (.v (.bool (fw p))) := by
 refine c5 Tryd.func47 rfl (fun m => .v) fun G nx => ?_
 simp only [Tryd.ntmps47, List.length_cons, List.length_nil, Nat.reduceAdd, Nat.reduceSub]
 refine bu fun hlt => ?_
 dsimp only at hlt
 refine yS fun _ K1 => ?_
 refine yR ?_
 try dsimp only [St.put]
 refine yB rfl rfl rfl ?_
 refine yA rfl rfl ?_
 refine yN ?_
 dsimp only [St.put]
 refine K1 _ ?_
 refine yS fun _ K2 => ?_
 refine yS fun _ K3 => ?_
 refine yR ?_
 refine yF rfl rfl rfl rfl ?_
 refine yL rfl rfl rfl ?_
 refine aa rfl (bp rfl rfl (List.length_map _)) ?_
 refine aa rfl (iq rfl rfl rfl) ?_
 refine eg (fun hs => ?_) (fun hs => ?_)
 ·have s1 : ¬ p.firsts.length ≤ 3 := by
   have := of_decide_eq_true hs
   omega
  refine yM rfl rfl ?_
  refine yK rfl ?_
  refine yK rfl ?_
  refine yK rfl ?_
  refine yK rfl ?_
  refine aa rfl (bz rfl rfl (by constructor)) ?_
  refine yM rfl rfl ?_
  refine yK rfl ?_
  refine yK rfl ?_
  refine yK rfl ?_
  refine yK rfl ?_
  refine aa rfl (bz rfl rfl (by constructor)) ?_
  refine yN ?_
  dsimp only [St.put]
  refine K3 _ ?_
  refine ar rfl (fun _ => ?_) (fun h => by cases h)
  refine yS fun _ K4 => ?_
  refine yR ?_
  refine yA rfl rfl ?_
  refine yN ?_
  dsimp only [St.put]
  refine K4 _ ?_
  refine aq ?_
  refine bh rfl (by constructor) zN zS ?_
  exact vb (by first | (simp [fw, jw, s1]; done) | (simp [fw, jw, s2]; done) | (simp [fw, s3]; done))
 have s1 : p.firsts.length ≤ 3 := by
  have := of_decide_eq_false hs
  omega
 refine yM rfl rfl ?_
 refine yF rfl rfl rfl rfl ?_
 refine yL rfl rfl rfl ?_
 refine aa rfl (bp rfl rfl (List.length_map _)) ?_
 refine aa rfl (iq rfl rfl rfl) ?_
 refine eg (fun hs => ?_) (fun hs => ?_)
 ·have s2 : ¬ p.seconds.length ≤ 3 := by
   have := of_decide_eq_true hs
   omega
  refine aa rfl (ck rfl rfl (by constructor)) ?_
  refine yM rfl rfl ?_
  refine yK rfl ?_
  refine yK rfl ?_
  refine yK rfl ?_
  refine yK rfl ?_
  refine aa rfl (bz rfl rfl (by constructor)) ?_
  refine yN ?_
  dsimp only [St.put]
  refine K3 _ ?_
  refine ar rfl (fun _ => ?_) (fun h => by cases h)
  refine yS fun _ K5 => ?_
  refine yR ?_
  refine yA rfl rfl ?_
  refine yN ?_
  dsimp only [St.put]
  refine K5 _ ?_
  refine aq ?_
  refine bh rfl (by constructor) zN zS ?_
  exact vb (by first | (simp [fw, jw, s1]; done) | (simp [fw, jw, s2]; done) | (simp [fw, s3]; done))
 have s2 : p.seconds.length ≤ 3 := by
  have := of_decide_eq_false hs
  omega
 refine aa rfl (ck rfl rfl (by constructor)) ?_
 refine yM rfl rfl ?_
 refine yF rfl rfl rfl rfl ?_
 refine yL rfl rfl rfl ?_
 refine aa rfl (bp rfl rfl (List.length_map _)) ?_
 refine aa rfl (iq rfl rfl rfl) ?_
 refine eg (fun hs => ?_) (fun hs => ?_)
 ·have s3 : ¬ p.pages.length ≤ 8 := by
   have := of_decide_eq_true hs
   omega
  refine aa rfl (ck rfl rfl (by constructor)) ?_
  refine yN ?_
  dsimp only [St.put]
  refine K3 _ ?_
  refine ar rfl (fun _ => ?_) (fun h => by cases h)
  refine yS fun _ K6 => ?_
  refine yR ?_
  refine yA rfl rfl ?_
  refine yN ?_
  dsimp only [St.put]
  refine K6 _ ?_
  refine aq ?_
  refine bh rfl (by constructor) zN zS ?_
  exact vb (by first | (simp [fw, jw, s1]; done) | (simp [fw, jw, s2]; done) | (simp [fw, s3]; done))
 have s3 : p.pages.length ≤ 8 := by
  have := of_decide_eq_false hs
  omega
 obtain ⟨A, hA⟩ : ∃ A, p.firsts ++ p.seconds = A := ⟨_, rfl⟩
 have hAl : A.length ≤ 6 := by rw [← hA, List.length_append]; omega
 refine aa rfl (ck rfl rfl (by constructor)) ?_
 refine yN ?_
 dsimp only [St.put]
 refine K3 _ ?_
 refine ar rfl (fun h => by cases h) (fun _ => ?_)
 refine ax ?_
 refine K2 _ ?_
 refine yS fun _ K7 => ?_
 refine yR ?_
 refine yA rfl rfl ?_
 refine yN ?_
 dsimp only [St.put]
 refine K7 _ ?_
 refine ugg 3 66 2 rfl (by decide) ?_
 refine yS fun _ K8 => ?_
 refine g8 [(0, none), (1, none), (2, none), (4, none), (5, none), (3, none), (6, none), (7, none)] (fun i => [6].contains i) (fun i => [3, 6].contains i) (fun i => [0, 1, 4, 7].contains i) [] (by kernel_rfl) (by kernel_rfl) ?_
 refine xM rfl rfl rfl rfl rfl ?_
 refine ah rfl rfl rfl rfl (ce rfl rfl rfl) ?_
 try dsimp only [St.put]
 refine aw rfl rfl rfl rfl (bq rfl rfl) ?_
 refine ah rfl rfl rfl rfl (ce rfl rfl rfl) ?_
 try dsimp only [St.put]
 refine aw rfl rfl rfl rfl (bq rfl rfl) ?_
 refine jf ?_
 try dsimp only [St.put]
 refine i9 rfl rfl rfl (o9 (xs := ([] : List bl)) p.firsts rfl rfl zG rfl rfl rfl rfl zA zA (fun v1 => ⟨zD, ?_⟩))
 try dsimp only [St.put]
 refine i9 rfl rfl rfl (o9 (xs := ([] : List bl) ++ p.firsts) p.seconds rfl rfl zG rfl rfl rfl rfl zA zA (fun v2 => ⟨zD, ?_⟩))
 refine ed rfl rfl rfl rfl (cz rfl (by constructor)) ?_
 refine je ?_
 dsimp only [St.put]
 refine K8 _ ?_
 refine ua1 3 (([] : List bl) ++ p.firsts ++ p.seconds) rfl zG rfl rfl rfl ?_
 refine dq G zX ?_
 dsimp only
 rw [show ([] : List bl) ++ p.firsts ++ p.seconds = A from hA]
 refine yS fun _ K9 => ?_
 refine yS fun _ K10 => ?_
 refine yR ?_
 refine yA rfl rfl ?_
 refine yN ?_
 dsimp only [St.put]
 refine K10 _ ?_
 refine bk ?_
 refine cp 9 ?_
 refine zQ ?_
 refine dq (G) zX ?_
 dsimp only
 refine dp (X := Nat) (fun i => i ≤ A.length ∧ (A.take i).all gq = true ∧ ((A.take i).map (·.id)).Nodup) (fun i => A.length - i) (fun i => [(4, .v (.int .i64 (i : Int))), (5, .any)]) (fun i G' => G') 0 rfl ?_ ?_ (fun _ _ h => h) ?_ ?_ ?_
 ·exact ⟨Nat.zero_le _, rfl, by simp⟩
 ·exact zF
 ·rintro i hI
  exact zL
 ·exact fun _ _ _ _ h => .inl h
 rintro i hI
 dsimp only at hI ⊢
 refine yS fun _ K11 => ?_
 refine yS fun _ K12 => ?_
 refine yR ?_
 refine yM rfl rfl ?_
 refine yM rfl rfl ?_
 refine aa rfl (bp rfl rfl (List.length_map _)) ?_
 refine aa rfl (cv rfl rfl rfl) ?_
 refine yN ?_
 dsimp only [St.put]
 refine K12 _ ?_
 refine ar rfl (fun hc => ?_) (fun hc => ?_)
 ·replace hc := of_decide_eq_true hc
  obtain ⟨r, hr⟩ : ∃ r, A[i]? = some r := dr (by omega)
  refine ax ?_
  refine K11 _ ?_
  refine yS fun _ K13 => ?_
  refine bk ?_
  refine yS fun _ K14 => ?_
  refine yS fun _ K15 => ?_
  refine yR ?_
  refine yM rfl rfl ?_
  refine yM rfl rfl ?_
  refine aa rfl (cb rfl rfl rfl rfl (ca (by assumption)) (Enc.len _)) ?_
  refine yF rfl rfl rfl rfl ?_
  refine yL rfl rfl rfl ?_
  try dsimp only [St.put]
  refine ae rfl (ay rfl rfl rfl (rr _ _ _) ?_)
  refine aa rfl (eb rfl rfl) ?_
  refine eg (fun hs => ?_) (fun hs => ?_)
  ·have q1 : inB r.id 0 9999 = false := by simpa using hs
   refine yM rfl rfl ?_
   refine yK rfl ?_
   refine yK rfl ?_
   refine yK rfl ?_
   refine yK rfl ?_
   refine yK rfl ?_
   refine yK rfl ?_
   refine yK rfl ?_
   refine aa rfl (bz rfl rfl (by constructor)) ?_
   refine yN ?_
   dsimp only [St.put]
   refine K15 _ ?_
   refine ar rfl (fun _ => ?_) (fun h => by cases h)
   refine yS fun _ K16 => ?_
   refine yR ?_
   refine yA rfl rfl ?_
   refine yN ?_
   dsimp only [St.put]
   refine K16 _ ?_
   refine aq ?_
   refine bh rfl (by constructor) zN zS ?_
   exact vb (by
    have hb : gq r = false := by first | (simp [gq, q1]; done) | (simp [gq, q2]; done)
    have : A.all gq = false := km hr hb
    rw [← hA] at this
    simp only [fw, jw, this, Bool.and_false, Bool.false_and])
  have q1 : inB r.id 0 9999 = true := by simpa using hs
  refine yM rfl rfl ?_
  refine yM rfl rfl ?_
  refine yM rfl rfl ?_
  refine aa rfl (cb rfl rfl rfl rfl (ca (by assumption)) (Enc.len _)) ?_
  refine yF rfl rfl rfl rfl ?_
  refine yL rfl rfl rfl ?_
  try dsimp only [St.put]
  refine ae rfl (ay rfl rfl rfl (rr _ _ _) ?_)
  refine aa rfl (eb rfl rfl) ?_
  refine eg (fun hs => ?_) (fun hs => ?_)
  ·have q2 : inB r.miss 0 90 = false := by simpa using hs
   refine aa rfl (ck rfl rfl (by constructor)) ?_
   refine yN ?_
   dsimp only [St.put]
   refine K15 _ ?_
   refine ar rfl (fun _ => ?_) (fun h => by cases h)
   refine yS fun _ K17 => ?_
   refine yR ?_
   refine yA rfl rfl ?_
   refine yN ?_
   dsimp only [St.put]
   refine K17 _ ?_
   refine aq ?_
   refine bh rfl (by constructor) zN zS ?_
   exact vb (by
    have hb : gq r = false := by first | (simp [gq, q1]; done) | (simp [gq, q2]; done)
    have : A.all gq = false := km hr hb
    rw [← hA] at this
    simp only [fw, jw, this, Bool.and_false, Bool.false_and])
  have q2 : inB r.miss 0 90 = true := by simpa using hs
  have hrb : gq r = true := by simp [gq, q1, q2]
  refine aa rfl (ck rfl rfl (by constructor)) ?_
  refine yN ?_
  dsimp only [St.put]
  refine K15 _ ?_
  refine ar rfl (fun h => by cases h) (fun _ => ?_)
  refine ax ?_
  refine K14 _ ?_
  refine yS fun _ K18 => ?_
  refine yR ?_
  refine yA rfl rfl ?_
  refine yN ?_
  dsimp only [St.put]
  refine K18 _ ?_
  refine bk ?_
  refine cp 9 ?_
  refine zQ ?_
  refine dq (G) zX ?_
  dsimp only
  refine dp (X := Nat) (fun k => k ≤ i ∧ ∀ y ∈ A.take k, y.id ≠ r.id) (fun k => i - k) (fun k => [(5, .v (.int .i64 (k : Int)))]) (fun k G' => G') 0 rfl ?_ ?_ (fun _ _ h => h) ?_ ?_ ?_
  ·exact ⟨Nat.zero_le _, by simp⟩
  ·exact zF
  ·rintro k hI
   exact zL
  ·exact fun _ _ _ _ h => .inl h
  rintro k hJ
  dsimp only at hJ ⊢
  refine yS fun _ K19 => ?_
  refine yS fun _ K20 => ?_
  refine yR ?_
  refine yM rfl rfl ?_
  refine yM rfl rfl ?_
  refine aa rfl (cv rfl rfl rfl) ?_
  refine yN ?_
  dsimp only [St.put]
  refine K20 _ ?_
  refine ar rfl (fun hc => ?_) (fun hc => ?_)
  ·replace hc := of_decide_eq_true hc
   obtain ⟨y, hy⟩ : ∃ y, A[k]? = some y := dr (by omega)
   refine ax ?_
   refine K19 _ ?_
   refine yS fun _ K21 => ?_
   refine bk ?_
   refine yS fun _ K22 => ?_
   refine g8 [(0, none), (1, none), (2, none), (3, none), (4, none), (5, none), (6, none), (7, none), (8, none), (9, none), (10, none)] (fun i => [].contains i) (fun i => [].contains i) (fun i => [0, 1, 2, 3, 5, 6, 7, 8, 10].contains i) [] (by kernel_rfl) (by kernel_rfl) ?_
   refine xM rfl rfl rfl rfl rfl ?_
   refine xM rfl rfl rfl rfl rfl ?_
   try dsimp only [St.put]
   refine ah rfl rfl rfl rfl (cb rfl rfl rfl rfl (ca (by assumption)) (Enc.len _)) ?_
   refine ah rfl rfl rfl rfl (ce rfl rfl rfl) ?_
   try dsimp only [St.put]
   refine aw rfl rfl rfl rfl (bq rfl rfl) ?_
   refine xM rfl rfl rfl rfl rfl ?_
   refine xM rfl rfl rfl rfl rfl ?_
   try dsimp only [St.put]
   refine ah rfl rfl rfl rfl (cb rfl rfl rfl rfl (ca (by assumption)) (Enc.len _)) ?_
   refine ah rfl rfl rfl rfl (ce rfl rfl rfl) ?_
   try dsimp only [St.put]
   refine aw rfl rfl rfl rfl (bq rfl rfl) ?_
   refine ah rfl rfl rfl rfl (fp rfl rfl rfl) ?_
   refine cn ?_
   dsimp only [St.put]
   refine K22 _ ?_
   refine ar rfl (fun hc => ?_) (fun hc => ?_)
   ·have hyr : y.id = r.id := of_decide_eq_true hc
    refine yS fun _ K23 => ?_
    refine yR ?_
    refine yA rfl rfl ?_
    refine yN ?_
    dsimp only [St.put]
    refine K23 _ ?_
    refine aq ?_
    refine bh rfl (by constructor) zN zS ?_
    exact vb (by
     have : ¬ (A.map (·.id)).Nodup := zo hy hr (by omega) hyr
     rw [← hA] at this
     simp only [fw, jw, decide_eq_false this, Bool.and_false, Bool.false_and])
   have hne : y.id ≠ r.id := of_decide_eq_false hc
   refine ax ?_
   refine K21 _ ?_
   refine yR ?_
   refine yM rfl rfl ?_
   refine aa rfl (cg rfl rfl rfl (by omega)) ?_
   refine yA rfl rfl ?_
   refine yN ?_
   dsimp only [St.put]
   exact ⟨k + 1, by omega, ⟨by omega, zv (p := fun y : bl => y.id ≠ r.id) hy hne hJ.2⟩, ⟨⟨rfl, rfl⟩, zF, zB, zN, zX⟩⟩
  replace hc := of_decide_eq_false hc
  have hki : k = i := by omega
  rw [hki] at hJ
  have hnd : r.id ∉ (A.take i).map (·.id) := fun hm => by
   obtain ⟨y, hy1, hy2⟩ := List.mem_map.1 hm
   exact hJ.2 y hy1 hy2
  refine dj ?_
  refine K13 _ ?_
  refine yR ?_
  refine yM rfl rfl ?_
  refine aa rfl (cg rfl rfl rfl (by omega)) ?_
  refine yA rfl rfl ?_
  refine yN ?_
  dsimp only [St.put]
  exact ⟨i + 1, by omega, ⟨by omega, by rw [rg hr, hI.2.1, hrb]; rfl, by rw [px hr]; exact zp hI.2.2 hnd⟩, ⟨⟨rfl, rfl⟩, zF, zB, zN, zX⟩⟩
 replace hc := of_decide_eq_false hc
 have hRB : jw p = true := by
  have h1 := hI.2.1
  have h2 := hI.2.2
  rw [gw (show A.length ≤ i by omega), ← hA] at h1 h2
  unfold jw
  rw [h1, decide_eq_true h2, decide_eq_true s1, decide_eq_true s2]; rfl
 refine dj ?_
 refine K9 _ ?_
 refine yS fun _ K24 => ?_
 refine yR ?_
 refine yA rfl rfl ?_
 refine yN ?_
 dsimp only [St.put]
 refine K24 _ ?_
 refine yS fun _ K25 => ?_
 refine yS fun _ K26 => ?_
 refine yR ?_
 refine yA rfl rfl ?_
 refine yN ?_
 dsimp only [St.put]
 refine K26 _ ?_
 refine bk ?_
 refine cp 9 ?_
 refine zQ ?_
 refine dq (G) zX ?_
 dsimp only
 refine dp (X := Nat) (fun j => j ≤ p.pages.length ∧ qr p j = true) (fun j => p.pages.length - j) (fun j => [(6, .v (.int .i64 (gt p.pages j))), (7, .v (.int .i64 (j : Int))), (8, .any)]) (fun j G' => G') 0 rfl ?_ ?_ (fun _ _ h => h) ?_ ?_ ?_
 ·exact ⟨Nat.zero_le _, rfl⟩
 ·exact zF
 ·rintro j hI
  exact zL
 ·exact fun _ _ _ _ h => .inl h
 rintro j hK
 dsimp only at hK ⊢
 refine yS fun _ K27 => ?_
 refine yS fun _ K28 => ?_
 refine yR ?_
 refine yM rfl rfl ?_
 refine yF rfl rfl rfl rfl ?_
 refine yL rfl rfl rfl ?_
 refine aa rfl (bp rfl rfl (List.length_map _)) ?_
 refine aa rfl (cv rfl rfl rfl) ?_
 refine yN ?_
 dsimp only [St.put]
 refine K28 _ ?_
 refine ar rfl (fun hc => ?_) (fun hc => ?_)
 ·replace hc := of_decide_eq_true hc
  obtain ⟨x, hx⟩ : ∃ x, p.pages[j]? = some x := dr (by omega)
  refine ax ?_
  refine K27 _ ?_
  refine yS fun _ K29 => ?_
  refine bk ?_
  refine yS fun _ K30 => ?_
  refine yR ?_
  refine yF rfl rfl rfl rfl ?_
  refine yL rfl rfl rfl ?_
  refine yM rfl rfl ?_
  refine aa rfl (cb rfl rfl rfl rfl (ca (by assumption)) (Enc.len _)) ?_
  refine yE rfl rfl rfl ?_
  try dsimp only [St.put]
  refine ae rfl (dd rfl ?_)
  try dsimp only [St.put]
  refine ae rfl (cw rfl rfl rfl zG rfl rfl (by rfl) ?_)
  refine yN ?_
  dsimp only [St.put]
  refine K30 _ ?_
  refine fj (i := 8) rfl zG zC ?_
  dsimp only
  refine yS fun _ K31 => ?_
  refine cp 9 ?_
  refine zQ ?_
  refine kj (X := Bool) (fun d => mz p (gt p.pages j) x = !d) (fun d => [(120, .v (.bool d))]) (fun d G' => G') rfl ?_ (fun _ _ _ _ h => .inl h) ?_ ?_
  ·rintro d hI
   exact zL
  ·refine qi [(0, none), (1, none), (2, none), (3, none), (4, none), (5, none), (6, none), (7, none), (8, none), (9, none), (10, none), (11, none), (12, none), (13, none), (14, none), (15, none)] (fun _ => false) (fun i => [0, 2, 3, 4, 5, 7, 9, 10, 11, 12, 14].contains i) 23 (rl [16, 23]) (by kernel_rfl) (by kernel_rfl) ?_
   refine ah rfl rfl rfl rfl (ce rfl rfl rfl) ?_
   try dsimp only [St.put]
   refine aw rfl rfl rfl rfl (bq rfl rfl) ?_
   refine xM rfl rfl rfl rfl rfl ?_
   refine ah rfl rfl rfl rfl (uf rfl rfl rfl) ?_
   refine j6 (fun hs => ?_) (fun hs => ?_)
   ·have z1 : x.fr ≤ gt p.pages j := of_decide_eq_true hs
    refine xM rfl rfl rfl rfl rfl ?_
    refine aj rfl rfl rfl ?_
    refine aj rfl rfl rfl ?_
    refine aj rfl rfl rfl ?_
    refine aj rfl rfl rfl ?_
    refine aj rfl rfl rfl ?_
    refine ah rfl rfl rfl rfl (bz rfl rfl (by constructor)) ?_
    refine xM rfl rfl rfl rfl rfl ?_
    refine aj rfl rfl rfl ?_
    refine aj rfl rfl rfl ?_
    refine aj rfl rfl rfl ?_
    refine aj rfl rfl rfl ?_
    refine cn ?_
    refine c7 [16] (by kernel_rfl) (by simp) ?_
    refine dz ?_ ?_
    ·refine ge rfl rfl rfl ?_
     refine ep [(17, none), (18, none), (19, none), (20, none), (21, none), (22, none), (23, none), (24, none), (25, none)] (fun i => [17, 18, 19, 20, 22, 24, 25].contains i) 13 (rl [26, 13]) (by kernel_rfl) ?_
     refine aj rfl rfl rfl ?_
     refine ah rfl rfl rfl rfl (bz rfl rfl (by constructor)) ?_
     refine xM rfl rfl rfl rfl rfl ?_
     refine aj rfl rfl rfl ?_
     refine aj rfl rfl rfl ?_
     refine aj rfl rfl rfl ?_
     refine aj rfl rfl rfl ?_
     refine aj rfl rfl rfl ?_
     refine aj rfl rfl rfl ?_
     refine cn ?_
     refine c7 [26] (by kernel_rfl) (by simp) ?_
     refine dz ?_ ?_
     ·refine ge rfl rfl rfl ?_
      refine ep [(27, none), (28, none), (29, none), (30, none), (31, none), (32, none), (33, none), (34, none), (35, none)] (fun i => [27, 28, 29, 30, 32, 34, 35].contains i) 3 (rl [36, 3]) (by kernel_rfl) ?_
      refine aj rfl rfl rfl ?_
      refine ah rfl rfl rfl rfl (bz rfl rfl (by constructor)) ?_
      refine xM rfl rfl rfl rfl rfl ?_
      refine aj rfl rfl rfl ?_
      refine aj rfl rfl rfl ?_
      refine aj rfl rfl rfl ?_
      refine aj rfl rfl rfl ?_
      refine aj rfl rfl rfl ?_
      refine aj rfl rfl rfl ?_
      refine cn ?_
      refine c7 [36] (by kernel_rfl) (by simp) ?_
      refine dz ?_ ?_
      ·refine ge rfl rfl rfl ?_
       refine ep [(37, none), (38, none)] (fun i => [37, 38].contains i) 0 (rl [39]) (by kernel_rfl) ?_
       refine aj rfl rfl rfl ?_
       refine ah rfl rfl rfl rfl (bz rfl rfl (by constructor)) ?_
       refine cn ?_
       dsimp only [St.put]
       refine ia (by kernel_rfl) ?_
       refine ⟨_, ?_, ⟨⟨rfl, rfl⟩, zF, zB, zN, zX⟩⟩
       simp_all [mz]
       try (intro h0; omega)
      exact dx
     exact dx
    exact dx
   have z1 : ¬ x.fr ≤ gt p.pages j := of_decide_eq_false hs
   refine xM rfl rfl rfl rfl rfl ?_
   refine ah rfl rfl rfl rfl (ce rfl rfl rfl) ?_
   try dsimp only [St.put]
   refine aw rfl rfl rfl rfl (bq rfl rfl) ?_
   refine ah rfl rfl rfl rfl (ce rfl rfl rfl) ?_
   try dsimp only [St.put]
   refine aw rfl rfl rfl rfl (bq rfl rfl) ?_
   refine ah rfl rfl rfl rfl (cv rfl rfl rfl) ?_
   refine j6 (fun hs => ?_) (fun hs => ?_)
   ·have z2 : x.to < x.fr := of_decide_eq_true hs
    refine ah rfl rfl rfl rfl (ck rfl rfl (by constructor)) ?_
    refine xM rfl rfl rfl rfl rfl ?_
    refine aj rfl rfl rfl ?_
    refine aj rfl rfl rfl ?_
    refine aj rfl rfl rfl ?_
    refine aj rfl rfl rfl ?_
    refine cn ?_
    refine c7 [16] (by kernel_rfl) (by simp) ?_
    refine dz ?_ ?_
    ·refine ge rfl rfl rfl ?_
     refine ep [(17, none), (18, none), (19, none), (20, none), (21, none), (22, none), (23, none), (24, none), (25, none)] (fun i => [17, 18, 19, 20, 22, 24, 25].contains i) 13 (rl [26, 13]) (by kernel_rfl) ?_
     refine aj rfl rfl rfl ?_
     refine ah rfl rfl rfl rfl (bz rfl rfl (by constructor)) ?_
     refine xM rfl rfl rfl rfl rfl ?_
     refine aj rfl rfl rfl ?_
     refine aj rfl rfl rfl ?_
     refine aj rfl rfl rfl ?_
     refine aj rfl rfl rfl ?_
     refine aj rfl rfl rfl ?_
     refine aj rfl rfl rfl ?_
     refine cn ?_
     refine c7 [26] (by kernel_rfl) (by simp) ?_
     refine dz ?_ ?_
     ·refine ge rfl rfl rfl ?_
      refine ep [(27, none), (28, none), (29, none), (30, none), (31, none), (32, none), (33, none), (34, none), (35, none)] (fun i => [27, 28, 29, 30, 32, 34, 35].contains i) 3 (rl [36, 3]) (by kernel_rfl) ?_
      refine aj rfl rfl rfl ?_
      refine ah rfl rfl rfl rfl (bz rfl rfl (by constructor)) ?_
      refine xM rfl rfl rfl rfl rfl ?_
      refine aj rfl rfl rfl ?_
      refine aj rfl rfl rfl ?_
      refine aj rfl rfl rfl ?_
      refine aj rfl rfl rfl ?_
      refine aj rfl rfl rfl ?_
      refine aj rfl rfl rfl ?_
      refine cn ?_
      refine c7 [36] (by kernel_rfl) (by simp) ?_
      refine dz ?_ ?_
      ·refine ge rfl rfl rfl ?_
       refine ep [(37, none), (38, none)] (fun i => [37, 38].contains i) 0 (rl [39]) (by kernel_rfl) ?_
       refine aj rfl rfl rfl ?_
       refine ah rfl rfl rfl rfl (bz rfl rfl (by constructor)) ?_
       refine cn ?_
       dsimp only [St.put]
       refine ia (by kernel_rfl) ?_
       refine ⟨_, ?_, ⟨⟨rfl, rfl⟩, zF, zB, zN, zX⟩⟩
       simp_all [mz]
       try (intro h0; omega)
      exact dx
     exact dx
    exact dx
   have z2 : ¬ x.to < x.fr := of_decide_eq_false hs
   refine ah rfl rfl rfl rfl (ck rfl rfl (by constructor)) ?_
   refine xM rfl rfl rfl rfl rfl ?_
   refine ah rfl rfl rfl rfl (ce rfl rfl rfl) ?_
   try dsimp only [St.put]
   refine aw rfl rfl rfl rfl (bq rfl rfl) ?_
   refine ah rfl rfl rfl rfl (ce rfl rfl rfl) ?_
   try dsimp only [St.put]
   refine aw rfl rfl rfl rfl (c := gu p.text) (ju (cs := cells p) rfl rfl (show 1 ≤ 4 by decide)) ?_
   refine cn ?_
   refine c7 [16] (by kernel_rfl) (by simp) ?_
   refine dz ?_ ?_
   ·try dsimp only [St.put]
    refine gk rfl rfl rfl (ay rfl rfl rfl (ujr p.text ht) ?_)
    refine ep [(17, none), (18, none), (19, none), (20, none), (21, none), (22, none), (23, none), (24, none), (25, none)] (fun i => [17, 18, 19, 20, 22, 24, 25].contains i) 13 (rl [26, 13]) (by kernel_rfl) ?_
    refine ah rfl rfl rfl rfl (kb rfl rfl rfl) ?_
    refine j6 (fun hs => ?_) (fun hs => ?_)
    ·have z3 : (mx p.text : Int) ≤ x.to := of_decide_eq_true hs
     refine ah rfl rfl rfl rfl (ck rfl rfl (by constructor)) ?_
     refine xM rfl rfl rfl rfl rfl ?_
     refine aj rfl rfl rfl ?_
     refine aj rfl rfl rfl ?_
     refine aj rfl rfl rfl ?_
     refine aj rfl rfl rfl ?_
     refine aj rfl rfl rfl ?_
     refine aj rfl rfl rfl ?_
     refine cn ?_
     refine c7 [26] (by kernel_rfl) (by simp) ?_
     refine dz ?_ ?_
     ·refine ge rfl rfl rfl ?_
      refine ep [(27, none), (28, none), (29, none), (30, none), (31, none), (32, none), (33, none), (34, none), (35, none)] (fun i => [27, 28, 29, 30, 32, 34, 35].contains i) 3 (rl [36, 3]) (by kernel_rfl) ?_
      refine aj rfl rfl rfl ?_
      refine ah rfl rfl rfl rfl (bz rfl rfl (by constructor)) ?_
      refine xM rfl rfl rfl rfl rfl ?_
      refine aj rfl rfl rfl ?_
      refine aj rfl rfl rfl ?_
      refine aj rfl rfl rfl ?_
      refine aj rfl rfl rfl ?_
      refine aj rfl rfl rfl ?_
      refine aj rfl rfl rfl ?_
      refine cn ?_
      refine c7 [36] (by kernel_rfl) (by simp) ?_
      refine dz ?_ ?_
      ·refine ge rfl rfl rfl ?_
       refine ep [(37, none), (38, none)] (fun i => [37, 38].contains i) 0 (rl [39]) (by kernel_rfl) ?_
       refine aj rfl rfl rfl ?_
       refine ah rfl rfl rfl rfl (bz rfl rfl (by constructor)) ?_
       refine cn ?_
       dsimp only [St.put]
       refine ia (by kernel_rfl) ?_
       refine ⟨_, ?_, ⟨⟨rfl, rfl⟩, zF, zB, zN, zX⟩⟩
       simp_all [mz]
       try (intro h0; omega)
      exact dx
     exact dx
    have z3 : ¬ (mx p.text : Int) ≤ x.to := of_decide_eq_false hs
    refine ah rfl rfl rfl rfl (ck rfl rfl (by constructor)) ?_
    refine xM rfl rfl rfl rfl rfl ?_
    refine ah rfl rfl rfl rfl (ce rfl rfl rfl) ?_
    try dsimp only [St.put]
    refine aw rfl rfl rfl rfl (bq rfl rfl) ?_
    refine ah rfl rfl rfl rfl (ce rfl rfl rfl) ?_
    try dsimp only [St.put]
    refine aw rfl rfl rfl rfl (bq rfl rfl) ?_
    refine ah rfl rfl rfl rfl (bp rfl rfl (List.length_map _)) ?_
    refine ah rfl rfl rfl rfl (i0 rfl rfl rfl (by omega)) ?_
    refine cn ?_
    refine c7 [26] (by kernel_rfl) (by simp) ?_
    refine dz ?_ ?_
    ·try dsimp only [St.put]
     refine gk rfl rfl rfl (ay rfl rfl rfl (rr _ _ _) ?_)
     refine ep [(27, none), (28, none), (29, none), (30, none), (31, none), (32, none), (33, none), (34, none), (35, none)] (fun i => [27, 28, 29, 30, 32, 34, 35].contains i) 3 (rl [36, 3]) (by kernel_rfl) ?_
     refine ah rfl rfl rfl rfl (eb rfl rfl) ?_
     refine j6 (fun hs => ?_) (fun hs => ?_)
     ·have z4 : inB x.fst (-1) ((p.firsts.length : Int) - 1) = false := by simpa using hs
      refine ah rfl rfl rfl rfl (ck rfl rfl (by constructor)) ?_
      refine xM rfl rfl rfl rfl rfl ?_
      refine aj rfl rfl rfl ?_
      refine aj rfl rfl rfl ?_
      refine aj rfl rfl rfl ?_
      refine aj rfl rfl rfl ?_
      refine aj rfl rfl rfl ?_
      refine aj rfl rfl rfl ?_
      refine cn ?_
      refine c7 [36] (by kernel_rfl) (by simp) ?_
      refine dz ?_ ?_
      ·refine ge rfl rfl rfl ?_
       refine ep [(37, none), (38, none)] (fun i => [37, 38].contains i) 0 (rl [39]) (by kernel_rfl) ?_
       refine aj rfl rfl rfl ?_
       refine ah rfl rfl rfl rfl (bz rfl rfl (by constructor)) ?_
       refine cn ?_
       dsimp only [St.put]
       refine ia (by kernel_rfl) ?_
       refine ⟨_, ?_, ⟨⟨rfl, rfl⟩, zF, zB, zN, zX⟩⟩
       simp_all [mz]
       try (intro h0; omega)
      exact dx
     have z4 : inB x.fst (-1) ((p.firsts.length : Int) - 1) = true := by simpa using hs
     refine ah rfl rfl rfl rfl (ck rfl rfl (by constructor)) ?_
     refine xM rfl rfl rfl rfl rfl ?_
     refine ah rfl rfl rfl rfl (ce rfl rfl rfl) ?_
     try dsimp only [St.put]
     refine aw rfl rfl rfl rfl (bq rfl rfl) ?_
     refine ah rfl rfl rfl rfl (ce rfl rfl rfl) ?_
     try dsimp only [St.put]
     refine aw rfl rfl rfl rfl (bq rfl rfl) ?_
     refine ah rfl rfl rfl rfl (bp rfl rfl (List.length_map _)) ?_
     refine ah rfl rfl rfl rfl (i0 rfl rfl rfl (by omega)) ?_
     refine cn ?_
     refine c7 [36] (by kernel_rfl) (by simp) ?_
     refine dz ?_ ?_
     ·try dsimp only [St.put]
      refine gk rfl rfl rfl (ay rfl rfl rfl (rr _ _ _) ?_)
      refine ep [(37, none), (38, none)] (fun i => [37, 38].contains i) 0 (rl [39]) (by kernel_rfl) ?_
      refine ah rfl rfl rfl rfl (eb rfl rfl) ?_
      refine j6 (fun hs => ?_) (fun hs => ?_)
      ·have z5 : inB x.snd (-1) ((p.seconds.length : Int) - 1) = false := by simpa using hs
       refine ah rfl rfl rfl rfl (ck rfl rfl (by constructor)) ?_
       refine cn ?_
       dsimp only [St.put]
       refine ia (by kernel_rfl) ?_
       refine ⟨_, ?_, ⟨⟨rfl, rfl⟩, zF, zB, zN, zX⟩⟩
       simp_all [mz]
       try (intro h0; omega)
      have z5 : inB x.snd (-1) ((p.seconds.length : Int) - 1) = true := by simpa using hs
      refine ah rfl rfl rfl rfl (ck rfl rfl (by constructor)) ?_
      refine cn ?_
      dsimp only [St.put]
      refine ia (by kernel_rfl) ?_
      refine ⟨_, ?_, ⟨⟨rfl, rfl⟩, zF, zB, zN, zX⟩⟩
      simp_all [mz]
      try (intro h0; omega)
     exact dx
    exact dx
   exact dx
  rintro d hst
  dsimp only at hst ⊢
  refine ar rfl (fun hc => ?_) (fun hc => ?_)
  ·have hhd : mz p (gt p.pages j) x = false := by rw [hst, hc]; rfl
   refine yS fun _ K33 => ?_
   refine yR ?_
   refine yA rfl rfl ?_
   refine yN ?_
   dsimp only [St.put]
   refine K33 _ ?_
   refine aq ?_
   refine bh rfl (by constructor) zN zS ?_
   exact vb (wj hx (by rw [wt, hhd]; rfl)).symm
  have hhd : mz p (gt p.pages j) x = true := by rw [hst, hc]; rfl
  refine ax ?_
  refine K31 _ ?_
  refine yS fun _ K34 => ?_
  refine yS fun _ K35 => ?_
  refine yR ?_
  refine yF rfl rfl rfl rfl ?_
  try dsimp only [St.put]
  refine bg rfl (c := gu p.text) (ju (cs := cells p) rfl rfl (show 1 ≤ 4 by decide)) ?_
  refine yE rfl rfl rfl ?_
  refine yF rfl rfl rfl rfl ?_
  refine yL rfl rfl rfl ?_
  refine yF rfl rfl rfl rfl ?_
  refine yL rfl rfl rfl ?_
  try dsimp only [St.put]
  refine ae rfl (ay rfl rfl rfl (ucg p.text x x.fst x.found ht) ?_)
  refine aa rfl (eb rfl rfl) ?_
  refine eg (fun hs => ?_) (fun hs => ?_)
  ·have hf1 : ig p.text x x.fst x.found = false := by simpa using hs
   refine yM rfl rfl ?_
   refine yK rfl ?_
   refine yK rfl ?_
   refine yK rfl ?_
   refine yK rfl ?_
   refine yK rfl ?_
   refine yK rfl ?_
   refine yK rfl ?_
   refine yK rfl ?_
   refine yK rfl ?_
   refine aa rfl (bz rfl rfl (by constructor)) ?_
   refine yN ?_
   dsimp only [St.put]
   refine K35 _ ?_
   refine ar rfl (fun _ => ?_) (fun h => by cases h)
   refine yS fun _ K36 => ?_
   refine yR ?_
   refine yA rfl rfl ?_
   refine yN ?_
   dsimp only [St.put]
   refine K36 _ ?_
   refine aq ?_
   refine bh rfl (by constructor) zN zS ?_
   exact vb (wj hx (by rw [wt, hhd, hf1]; first | rfl | (rw [hf2]; rfl))).symm
  have hf1 : ig p.text x x.fst x.found = true := by simpa using hs
  refine yM rfl rfl ?_
  refine yF rfl rfl rfl rfl ?_
  try dsimp only [St.put]
  refine bg rfl (c := gu p.text) (ju (cs := cells p) rfl rfl (show 1 ≤ 4 by decide)) ?_
  refine yE rfl rfl rfl ?_
  refine yF rfl rfl rfl rfl ?_
  refine yL rfl rfl rfl ?_
  refine yF rfl rfl rfl rfl ?_
  refine yL rfl rfl rfl ?_
  try dsimp only [St.put]
  refine ae rfl (ay rfl rfl rfl (ucg p.text x x.snd x.well ht) ?_)
  refine aa rfl (eb rfl rfl) ?_
  refine eg (fun hs => ?_) (fun hs => ?_)
  ·have hf2 : ig p.text x x.snd x.well = false := by simpa using hs
   refine aa rfl (ck rfl rfl (by constructor)) ?_
   refine yN ?_
   dsimp only [St.put]
   refine K35 _ ?_
   refine ar rfl (fun _ => ?_) (fun h => by cases h)
   refine yS fun _ K37 => ?_
   refine yR ?_
   refine yA rfl rfl ?_
   refine yN ?_
   dsimp only [St.put]
   refine K37 _ ?_
   refine aq ?_
   refine bh rfl (by constructor) zN zS ?_
   exact vb (wj hx (by rw [wt, hhd, hf1]; first | rfl | (rw [hf2]; rfl))).symm
  have hf2 : ig p.text x x.snd x.well = true := by simpa using hs
  refine aa rfl (ck rfl rfl (by constructor)) ?_
  refine yN ?_
  dsimp only [St.put]
  refine K35 _ ?_
  refine ar rfl (fun h => by cases h) (fun _ => ?_)
  refine ax ?_
  refine K34 _ ?_
  refine yR ?_
  refine yF rfl rfl rfl rfl ?_
  refine yL rfl rfl rfl ?_
  refine yA rfl rfl ?_
  refine yN ?_
  dsimp only [St.put]
  refine K29 _ ?_
  refine yR ?_
  refine yM rfl rfl ?_
  refine aa rfl (cg rfl rfl rfl (by omega)) ?_
  refine yA rfl rfl ?_
  refine yN ?_
  dsimp only [St.put]
  rw [← ud8 hx]
  exact ⟨j + 1, by omega, ⟨by omega, by rw [uct, hK.2, zd hx, wt, hhd, hf1, hf2]; rfl⟩, ⟨⟨rfl, rfl⟩, zF, zB, zN, zX⟩⟩
 replace hc := of_decide_eq_false hc
 obtain rfl : j = p.pages.length := by omega
 refine dj ?_
 refine K25 _ ?_
 refine yS fun _ K38 => ?_
 refine yR ?_
 refine yA rfl rfl ?_
 refine yN ?_
 dsimp only [St.put]
 refine K38 _ ?_
 refine aq ?_
 refine bh rfl (by constructor) zN zS ?_
 exact vb (by unfold fw; rw [hRB, hK.2, decide_eq_true s3]; rfl)
end Go.Proofs.YtbbdginipiljdaaDoor
namespace Go.AB
open Go Go.RowKit
open Go.AB.Enc (cells)
open Go.PB (av ai PlaceD az bf ba bl am af co bj dc dg)
theorem rf {p : af} {n : Int} (h : eh p n = 0) : cm p = 0 ∧ ∃ (j : Nat) (x : am), n = (j : Int) ∧ p.pages[j]? = some x ∧ oy p n = x := by
 unfold eh at h
 by_cases hc : cm p = 0
 ·rw [decide_eq_true hc, cond_true] at h
  cases hb : inB n 0 ((p.pages.length : Int) - 1)
  ·rw [hb] at h; cases h
  rw [inB_true] at hb
  obtain ⟨x, hx⟩ : ∃ x, p.pages[n.toNat]? = some x := ⟨_, List.getElem?_eq_getElem (show n.toNat < p.pages.length by omega)⟩
  exact ⟨hc, n.toNat, x, by omega, hx, by unfold oy; rw [hx]; rfl⟩
 rw [decide_eq_false hc, cond_false] at h
 exact absurd h hc
end Go.AB
namespace Go.Proofs.YtbbdginipiljdaaDoor
set_option maxRecDepth 10000
open Go.RowKit Go.AB
open Go.AB.Enc (cells)
open Go.PB (av ai PlaceD az bf ba bl am af co bj dc dg)
theorem uju (p : af) : Pure Tryd.prog 17 [val p] (.v (.int .i64 (cm p))) := by
 refine c5 Tryd.func17 rfl (fun m => .v) fun G nx => ?_
 simp only [Tryd.ntmps17, List.length_cons, List.length_nil, Nat.reduceAdd, Nat.reduceSub]
 refine bu fun hlt => ?_
 dsimp only at hlt
 refine yS fun _ K1 => ?_
 refine yR ?_
 try dsimp only [St.put]
 refine yB rfl rfl rfl ?_
 refine yA rfl rfl ?_
 refine yN ?_
 dsimp only [St.put]
 refine K1 _ ?_
 refine yS fun _ K2 => ?_
 refine yS fun _ K3 => ?_
 refine yR ?_
 refine yF rfl rfl rfl rfl ?_
 try dsimp only [St.put]
 refine bg rfl (c := gu p.text) (ju (cs := cells p) rfl rfl (show 1 ≤ 4 by decide)) ?_
 try dsimp only [St.put]
 refine ae rfl (ay rfl rfl rfl (upf p.text) ?_)
 refine yA rfl rfl ?_
 refine yN ?_
 dsimp only [St.put]
 refine K3 _ ?_
 refine yS fun _ K4 => ?_
 refine yR ?_
 refine yM rfl rfl ?_
 refine aa rfl (ff rfl rfl rfl) ?_
 refine yN ?_
 dsimp only [St.put]
 refine K4 _ ?_
 refine ar rfl (fun hc => ?_) (fun hc => ?_)
 ·have ht : dv p.text = false := by
   have h0 := j8 hc
   unfold jb at h0
   cases h1 : dv p.text
   ·rfl
   rw [h1] at h0; exact absurd rfl h0
  refine yS fun _ K5 => ?_
  refine yR ?_
  refine yM rfl rfl ?_
  refine yA rfl rfl ?_
  refine yN ?_
  dsimp only [St.put]
  refine K5 _ ?_
  refine aq ?_
  refine bh rfl (by constructor) zN zS ?_
  exact vi (by simp [cm, jb, ht])
 have ht : dv p.text = true := by
  have h0 := ip hc
  unfold jb at h0
  cases h1 : dv p.text
  ·rw [h1] at h0; cases h0
  rfl
 refine ax ?_
 refine K2 _ ?_
 refine yS fun _ K6 => ?_
 refine yS fun _ K7 => ?_
 refine yR ?_
 refine yE rfl rfl rfl ?_
 try dsimp only [St.put]
 refine ae rfl (ay rfl rfl rfl (ujs p ht) ?_)
 refine aa rfl (eb rfl rfl) ?_
 refine yN ?_
 dsimp only [St.put]
 refine K7 _ ?_
 refine ar rfl (fun hc => ?_) (fun hc => ?_)
 ·have hp : fw p = false := by simpa using hc
  refine yS fun _ K8 => ?_
  refine yR ?_
  refine yA rfl rfl ?_
  refine yN ?_
  dsimp only [St.put]
  refine K8 _ ?_
  refine aq ?_
  refine bh rfl (by constructor) zN zS ?_
  exact vi (by simp [cm, ht, hp])
 have hp : fw p = true := by simpa using hc
 refine ax ?_
 refine K6 _ ?_
 refine yS fun _ K9 => ?_
 refine yR ?_
 refine yA rfl rfl ?_
 refine yN ?_
 dsimp only [St.put]
 refine K9 _ ?_
 refine aq ?_
 refine bh rfl (by constructor) zN zS ?_
 exact vi (by simp [cm, ht, hp])
end Go.Proofs.YtbbdginipiljdaaDoor
namespace Go.Proofs.YtbbdginipiljdaaDoor
set_option maxRecDepth 10000
open Go.RowKit Go.AB
open Go.AB.Enc (cells)
open Go.PB (av ai PlaceD az bf ba bl am af co bj dc dg)
end Go.Proofs.YtbbdginipiljdaaDoor
namespace Go.Proofs.YtbbdginipiljdaaDoor
set_option maxRecDepth 10000
open Go.RowKit Go.AB
open Go.AB.Enc (cells)
open Go.PB (av ai PlaceD az bf ba bl am af co bj dc dg)
end Go.Proofs.YtbbdginipiljdaaDoor
namespace Go.Proofs.YtbbdginipiljdaaDoor
set_option maxRecDepth 10000
open Go.RowKit Go.AB
open Go.AB.Enc (cells)
open Go.PB (av ai PlaceD az bf ba bl am af co bj dc dg)
end Go.Proofs.YtbbdginipiljdaaDoor
namespace Go.AB
open Go Go.RowKit
open Go.AB.Enc (cells)
open Go.PB (av ai PlaceD az bf ba bl am af co bj)
/-! ### First and second readers change their places -/
/-! ### Errors that are missed -/
end Go.AB
namespace Go.AB
open Go Go.RowKit
open Go.AB.Enc (cells)
open Go.PB (av ai PlaceD az bf ba bl am af co bj dc dg)
def ry (R : Nat → Int) (c : Int) (l : List Int) : Int := l.foldl (fun n z => min n (R z.toNat)) c
def lu (R : Nat → Int) (n : Int) (l : List Int) : Nat → Int := l.foldl (fun R z => fun i => bif decide (i = z.toNat) then R z.toNat - n else R i) R
theorem uh7 (R : Nat → Int) (n : Int) : lu R n [] = R := rfl
theorem uli {R : Nat → Int} {c : Int} {l : List Int} {k : Nat} {z : Int} (h : l[k]? = some z) : ry R c (l.take (k + 1)) = min (ry R c (l.take k)) (R z.toNat) := by
 unfold ry; rw [List.take_add_one, h, Option.toList_some, List.foldl_append]; rfl
theorem uh6 {R : Nat → Int} {n : Int} {l : List Int} {k : Nat} {z : Int} (h : l[k]? = some z) : lu R n (l.take (k + 1)) = fun i => bif decide (i = z.toNat) then lu R n (l.take k) z.toNat - n else lu R n (l.take k) i := by
 unfold lu; rw [List.take_add_one, h, Option.toList_some, List.foldl_append]; rfl
theorem uof {p : af} {j : Nat} {x : am} (hx : p.pages[j]? = some x) (R C : Nat → Int) : (bi p).alone R C j = ry R (C j) (da p x) := by
 simp only [Net.alone, bi, hx, da, ry]
 by_cases q1 : 0 ≤ x.fst <;> by_cases q2 : 0 ≤ x.snd
 ·simp [q1, q2, o1, show ((p.firsts.length : Int) + x.snd).toNat = p.firsts.length + x.snd.toNat by omega]
 ·simp [q1, q2, o1]
 ·simp [q1, q2, o1, show ((p.firsts.length : Int) + x.snd).toNat = p.firsts.length + x.snd.toNat by omega]
 ·simp [q1, q2, o1]
theorem ulx {p : af} (h : ez p) {j : Nat} {x : am} (hx : p.pages[j]? = some x) (R : Nat → Int) (n : Int) : (bi p).lessR R j n = lu R n (da p x) := by
 have hp := pageB_true.1 (h.page j x hx)
 have h1 := hp.fst
 have h2 := hp.snd
 funext i
 simp only [Net.lessR, Net.by, bi, hx, da, lu]
 by_cases q1 : 0 ≤ x.fst <;> by_cases q2 : 0 ≤ x.snd
 ·have e2 : ((p.firsts.length : Int) + x.snd).toNat = p.firsts.length + x.snd.toNat := by omega
  have hne : ¬ p.firsts.length + x.snd.toNat = x.fst.toNat := by omega
  rw [decide_eq_true q1, decide_eq_true q2]
  simp only [cond_true, List.cons_append, List.nil_append, List.foldl_cons, List.foldl_nil, e2, Option.some.injEq]
  by_cases z1 : i = x.fst.toNat
  ·have z2 : ¬ i = p.firsts.length + x.snd.toNat := by omega
   simp [z1.symm, z2, Ne.symm z2]
  ·by_cases z2 : i = p.firsts.length + x.snd.toNat
   ·simp [z1, Ne.symm z1, z2, hne, Ne.symm hne]
   ·simp [z1, Ne.symm z1, z2, Ne.symm z2]
 ·rw [decide_eq_true q1, decide_eq_false q2]
  simp only [cond_true, cond_false, List.append_nil, List.foldl_cons, List.foldl_nil, Option.some.injEq]
  by_cases z1 : i = x.fst.toNat
  ·simp [z1]
  ·simp [z1, Ne.symm z1]
 ·have e2 : ((p.firsts.length : Int) + x.snd).toNat = p.firsts.length + x.snd.toNat := by omega
  rw [decide_eq_false q1, decide_eq_true q2]
  simp only [cond_true, cond_false, List.nil_append, List.foldl_cons, List.foldl_nil, e2, Option.some.injEq]
  by_cases z2 : i = p.firsts.length + x.snd.toNat
  ·simp [z2]
  ·simp [z2, Ne.symm z2]
 ·rw [decide_eq_false q1, decide_eq_false q2]
  simp
theorem ua0 {p : af} {R C : Nat → Int} (hB : Bd p R C) {j : Nat} {n : Int} (h0 : 0 ≤ n) (hn : n ≤ (bi p).alone R C j) : Bd p ((bi p).lessR R j n) (eo C j) := by
 refine ⟨fun i => ?_, fun k => ?_, hB.nr, hB.np⟩
 ·unfold Net.lessR
  cases hb : (bi p).by j i
  ·exact hB.r i
  ·have h1 := (Net.le_alone.1 hn).2 i hb
   have h2 := hB.r i
   show -1000000 ≤ R i - n ∧ R i - n ≤ 1000000
   omega
 ·unfold eo
  cases decide (k = j)
  ·exact hB.c k
  ·exact ⟨Int.le_refl _, by show (0 : Int) ≤ 1000000; omega⟩
/-- what is above has been looked at -/
def FromTop (p : af) (R C : Nat → Int) (j : Nat) (n : Int) : Prop := (bi p).pick R C j ≤ n ∧ n ≤ (bi p).alone R C j ∧ ∀ m, n < m → m ≤ (bi p).alone R C j → ¬ (bi p).most R C ≤ m + (bi p).most ((bi p).lessR R j m) (eo C j)
theorem FromTop.start {p : af} {R C : Nat → Int} {j : Nat} (h : (bi p).Pick R C j ((bi p).pick R C j)) : FromTop p R C j ((bi p).alone R C j) := ⟨h.le, Int.le_refl _, fun m h1 h2 => by omega⟩
theorem FromTop.stop {p : af} {R C : Nat → Int} {j : Nat} {n : Int} (h : (bi p).Pick R C j ((bi p).pick R C j)) (k : FromTop p R C j n) (hs : (bi p).most R C ≤ n + (bi p).most ((bi p).lessR R j n) (eo C j)) : n = (bi p).pick R C j :=
 Net.Pick.uniq ⟨Int.le_trans h.nn k.1, k.2.1, hs, k.2.2⟩ h
theorem FromTop.down {p : af} {R C : Nat → Int} {j : Nat} {n : Int} (h : (bi p).Pick R C j ((bi p).pick R C j)) (k : FromTop p R C j n) (hs : ¬ (bi p).most R C ≤ n + (bi p).most ((bi p).lessR R j n) (eo C j)) : FromTop p R C j (n - 1) := by
 refine ⟨?_, by have := k.2.1; omega, fun m h1 h2 => ?_⟩
 ·have h1 := k.1
  by_cases e : n = (bi p).pick R C j
  ·subst e
   exact absurd h.ok hs
  ·omega
 ·by_cases e : m = n
  ·subst e; exact hs
  ·exact k.2.2 m (by omega) h2
end Go.AB
namespace Go.AB
open Go Go.RowKit
open Go.AB.Enc (cells)
section
variable {P : Program} {o : Oper} {st : St} {K : St → Prop}
/-- An empty slice that is built: owned. -/
theorem vf {t e : TypeId} {sz bytes : Nat} [AppT P t e sz bytes] (ho : o.op = .buildSlice t 0 #[]) (hsz1 : 1 ≤ sz) (h : K (St.put { st with G := ak st.G st.nx (.arr 0 0 e sz 0 []), nx := st.nx + 1 } o.dst (.own st.nx 0 0))) : EStep P o st K :=
 kg fun E w a hsim => by
  obtain ⟨ht, i, z, hie, hz, h1, h2, h3⟩ := AppT.spec (P := P) (t := t) (e := e) (sz := sz) (bytes := bytes)
  obtain ⟨ob, hob⟩ : ∃ ob, ob = Obj.cells #[] e := ⟨_, rfl⟩
  have hev := Ev.laid hsim.g (o := ob) 0 (.inl rfl)
  have hg := SimG.laid hsim.g (o := ob) 0 (.inl rfl)
  have hnew : (w.alloc ob).heap[w.heap.size]? = some ob := sd w ob
  have hsz : (w.alloc ob).heap.size = w.heap.size + 1 := by simp
  have hold : ∀ n tt b, (E.lay w.heap.size 0).T n = some tt → blk tt.2.2 = some b → b < w.heap.size := fun n tt b h5 h6 => (hsim.g.tb n _ _ _ b h5 h6).2
  have hnx := hsim.g.nx
  have hfr : ∀ b o', blk (.slice (some ⟨w.heap.size, 0, none⟩) 0 0) = some b → w.heap[b]? = some o' → False := fun b o' hbk ho' => by
   simp only [blk, Option.some.injEq] at hbk
   subst hbk
   have := (Array.getElem?_eq_some_iff.1 ho').1
   omega
  have hev2 := hev.thenName (.slice (some ⟨w.heap.size, 0, none⟩) 0 0) hfr
  have hg2 := SimG.name hg (.slice (some ⟨w.heap.size, 0, none⟩) 0 0) (.arr 0 0 e sz 0 []) (fun b hbk => by
   simp only [blk, Option.some.injEq] at hbk
   subst hbk
   exact ⟨hsim.g.base, by rw [hsz]; omega, fun n tt h5 h6 => absurd (hold n tt _ h5 h6) (by omega)⟩) (by
   refine ⟨.slice (some ⟨w.heap.size, 0, none⟩) 0 0, [], ?_, ⟨by simp, .inr ⟨w.heap.size, 0, _, rfl, hsim.g.base, hnew.trans (by rw [hob]), Nat.le_refl _, Nat.zero_le _, by simp, by simp⟩⟩, fun c hc => (by cases hc), Rs.nil, fun b hbk => ?_, hsz1⟩
   ·simp [Env.name, Env.lay, hnx]
   ·simp only [blk, Option.some.injEq] at hbk
    subst hbk
    simp [Env.name, Env.lay])
  refine ⟨.slice (some ⟨w.heap.size, 0, none⟩) 0 0, w.alloc ob, _, _, _, .own st.nx 0 0, ?_, hev2, ?_, hg2, h⟩
  ·subst hob
   simp [execOp, ho, Instr.buildSlice, run_underlying ht, sizeOf, typeInfo, hie, Instr.fill, newRow, newObj, Sem.run, show (Array.map (fun _ => (default : Value)) (Array.range 0)) = #[] from by simp]
  ·refine R.own (by simp [Env.name, Env.lay]; omega) (Nat.le_refl _) (Nat.zero_le _) fun ver wv val htt => ?_
   simp only [Env.name, Env.lay, hnx, if_true, Option.some.injEq, Prod.mk.injEq] at htt
   obtain ⟨rfl, rfl, rfl⟩ := htt
   exact ⟨Nat.le_refl _, fun _ => ⟨_, Nat.le_refl _, rfl⟩⟩
end
end Go.AB
namespace Go.AB
open Go Go.RowKit
open Go.AB.Enc (cells)
variable {ρ : Option Nat}
section
variable {P : Program} {Q : Exit → St → Prop} {st : St}
theorem Back.simN {E0 E' : Env} {w0 w' : World} {a0 a' : Act} {st' : St} {u : List (Nat × C)} {g : Nat → Option GObj} {M : Nat} (h0 : Sim E0 w0 st a0) (hr : st.r = []) (hM : st.nx ≤ M) (hb : Back { st with nx := M } u g st') (hu : pz M u) (hg : ∀ n o, g n = some o → st.G n = some o ∨ (n < M ∧ o.low M))
  (hev : Ev E0 w0 E' w') (hs : Sim E' w' st' a') : Ev E0 w0 (E'.drop M) w' ∧ Sim (E'.drop M) w' { st with r := u, G := g, nx := M } a' := by
 have h1 := h0.g.nx
 refine ⟨hev.drop (by omega), ?_⟩
 have hlow : ∀ i, i < st.n → (bn st.l u i).low M := fun i hi => by
  rcases uw st.l u i with ⟨p, hp, _, he⟩ | ⟨_, he⟩
  ·rw [he]; exact z6 hu p hp
  ·rw [he]
   have := h0.low i hi
   rw [hr] at this
   exact C.low.mono this hM
 have hcl : ∀ i, bn st.l u i = .any ∨ bn st.l u i = bn st'.l st'.r i := fun i => by
  by_cases hi : i < st.l.length
  ·rcases xq _ _ hb.fits i (Nat.zero_le _) (by show i < 0 + st.l.length; omega) with h | h
   ·exact .inl h
   ·exact .inr h.symm
  ·rcases uw st.l u i with ⟨p, hp, he, he2⟩ | ⟨_, he⟩
   ·rcases hb.keys with hk | hk
    ·have h2 : p.1 < st.l.length := xf hk p hp
     omega
    ·rcases xp hk p hp with h | h
     ·left; rw [he2, h]
     ·right; rw [he2, ← h, he]
   ·left; rw [he, List.getD_eq_getElem?_getD, List.getElem?_eq_none (by omega)]; rfl
 refine hs.dropTo (st' := { st with r := u, G := g, nx := M }) hb.n.1.symm hb.n.2.symm hb.nx (fun i hi => ?_) fun n o ho => ⟨hb.G n o ho, ?_⟩
 ·rcases hcl i with h2 | h2
  ·exact .inl h2
  ·exact .inr ⟨h2, hlow i (hb.n.1 ▸ hi)⟩
 ·rcases hg n o ho with h2 | h2
  ·have := h0.lowG n o h2
   exact ⟨by have := this.1; show n < M; omega, GObj.low_mono this.2 hM⟩
  ·exact h2
end
section
variable {P : Program} {o : Oper} {st : St} {K : St → Prop}
end
end Go.AB
namespace Go.AB
open Go Go.RowKit
theorem uge {ρ : Option Nat} {P : Program} {Q : Exit → St → Prop} {st : St} {X : Type} {x y : Code} (I : X → Prop) (u : X → List (Nat × C)) (g : X → (Nat → Option GObj) → Nat → Option GObj) (N : X → Nat) (hr : st.r = [])
  (hN : ∀ x, I x → st.nx ≤ N x) (hu : ∀ x, I x → pz (N x) (u x)) (hg : ∀ x, I x → ∀ n o, g x st.G n = some o → st.G n = some o ∨ (n < N x ∧ o.low (N x)))
  (h1 : AW ρ P x (ph (fun st' => ∃ x', I x' ∧ Back { st with nx := N x' } (u x') (g x' st.G) st') Q) st) (h2 : ∀ x', I x' → AW ρ P y Q { st with r := u x', G := g x' st.G, nx := N x' }) : AW ρ P (.seq x y) Q st := by
 intro E w a hs
 refine wpIn_seq (il ?_ (h1 E w a hs))
 rintro e a' w' ⟨st', E', q1, q2, q3⟩
 cases e with
 | normal =>
  obtain ⟨x', h5, h6⟩ := q3
  obtain ⟨h7, h8⟩ := Back.simN hs hr (hN x' h5) h6 (hu x' h5) (hg x' h5) q1 q2
  exact il (fun _ _ _ hq => my h7 hq) (h2 x' h5 _ w' a' h8)
 | _ => exact ⟨st', E', q1, q2, q3⟩
/-- What stands in a slot is known less well. -/
theorem x5 {ρ : Option Nat} {P : Program} {Q : Exit → St → Prop} {st : St} {x : Code} (i : Nat) {c : C} (c' : C) (h0 : st.at i = c) (hw : Wk c c') (h : AW ρ P x Q { st with r := (i, c') :: st.r }) : AW ρ P x Q st := by
 intro E w a hs
 have hp := hs.at i
 rw [h0] at hp
 refine h E w a ⟨hs.d, hs.sz, fun j v hj => ?_, hs.g⟩
 simp only [bn]
 cases hb : Nat.beq i j
 ·exact hs.t j v hj
 ·have hij := Nat.eq_of_beq_eq_true hb
  subst hij
  have hv : a.tmps.getD i undef = v := by rw [Array.getD_eq_getD_getElem?, hj]; rfl
  rw [hv] at hp
  exact hw.2 _ _ _ hp
end Go.AB
namespace Go.AB
open Go Go.RowKit
open Go.AB.Enc (cells)
open Go.PB (av ai PlaceD az bf ba bl am af co bj dc dg)
theorem ums {l : List Int} {k : Nat} {z : Int} (h : l[k]? = some z) : (cr l)[k]? = some (.v (.int .i64 z)) := by
 have e : cr l = l.map fun y => .v (.int .i64 y) := by
  clear h
  induction l with
  | nil => rfl
  | cons y l ih =>
   have h1 : cr (y :: l) = cells y ++ cr l := by simp [cr]
   rw [h1, ih]; rfl
 rw [e, List.getElem?_map, h]; rfl
end Go.AB
namespace Go.Proofs.YtbbdginipiljdaaDoor
set_option maxRecDepth 10000
open Go.RowKit Go.AB
open Go.AB.Enc (cells)
open Go.PB (av ai PlaceD az bf ba bl am af co bj dc dg)
theorem za {p : af} (h : ez p) {j : Nat} {x : am} (hx : p.pages[j]? = some x) {k : Nat} (hk : k < (da p x).length) : ∃ zn : Nat, (da p x)[k]? = some (zn : Int) ∧ zn < cc p := by
 have hp := pageB_true.1 (h.page j x hx)
 have h1 := hp.fst
 have h2 := hp.snd
 obtain ⟨z, hz⟩ : ∃ z, (da p x)[k]? = some z := ⟨_, List.getElem?_eq_getElem hk⟩
 have hm := List.mem_of_getElem? hz
 have hb : 0 ≤ z ∧ z < (cc p : Int) := by
  unfold da at hm
  unfold cc
  rw [List.mem_append] at hm
  rcases hm with hm | hm
  ·by_cases q : 0 ≤ x.fst
   ·rw [decide_eq_true q, cond_true, List.mem_singleton] at hm; omega
   rw [decide_eq_false q] at hm; cases hm
  by_cases q : 0 ≤ x.snd
  ·rw [decide_eq_true q, cond_true, List.mem_singleton] at hm; omega
  rw [decide_eq_false q] at hm; cases hm
 exact ⟨z.toNat, by rw [hz]; congr 1; omega, by omega⟩
end Go.Proofs.YtbbdginipiljdaaDoor
namespace Go.AB
open Go Go.RowKit
open Go.AB.Enc (cells)
open Go.PB (av ai PlaceD az bf ba bl am af co bj dc dg)
theorem uf2 (r : Int) (s i : Nat) : r * ((s / 2 ^ i % 2 : Nat) : Int) = bif s.testBit i then r else 0 := by
 have h2 : s / 2 ^ i % 2 < 2 := Nat.mod_lt _ (by omega)
 cases hb : s.testBit i
 ·have : s / 2 ^ i % 2 = 0 := by
   have : ¬ ((s / 2 ^ i % 2 : Nat) : Int) = 1 := fun e => by
    have := bit_eq.1 e
    rw [hb] at this; cases this
   omega
  rw [this]; simp
 have : s / 2 ^ i % 2 = 1 := by have := bit_eq.2 hb; omega
 rw [this]; simp
theorem uax (s i : Nat) : decide (((s / 2 ^ i % 2 : Nat) : Int) = 1) = s.testBit i := by
 rw [Bool.eq_iff_iff, decide_eq_true_eq]
 exact bit_eq
theorem ujm {p : af} (h : ez p) {j : Nat} {x : am} (hx : p.pages[j]? = some x) {z : Int} (hz : z ∈ da p x) : ∃ zn : Nat, z = (zn : Int) ∧ zn ≤ 6 := by
 obtain ⟨k, hk⟩ := List.getElem?_of_mem hz
 obtain ⟨zn, h1, h2⟩ := ujl h hx (List.getElem?_eq_some_iff.1 hk).1
 rw [hk] at h1
 cases h1
 exact ⟨zn, rfl, h2⟩
theorem wh {p : af} {j : Nat} {x : am} (hx : p.pages[j]? = some x) : (p.pages.map (da p))[j]? = some (da p x) := by rw [List.getElem?_map, hx]; rfl
end Go.AB
namespace Go.Proofs.YtbbdginipiljdaaDoor
set_option maxRecDepth 10000
open Go.RowKit Go.AB
open Go.AB.Enc (cells)
open Go.PB (av ai PlaceD az bf ba bl am af co bj dc dg)
theorem ukd (k s : Nat) (hk : k ≤ 64) (hs : s ≤ 1000) : Pure Tryd.prog 91 [.v (.int .i64 (k : Int)), .elem [.v (.int .i64 (s : Int))]] (.v (.bool (s.testBit k))) := by
 refine c5 Tryd.func91 rfl (fun m => .v) fun G nx => ?_
 simp only [Tryd.ntmps91, List.length_cons, List.length_nil, Nat.reduceAdd, Nat.reduceSub]
 refine bu fun hlt => ?_
 dsimp only at hlt
 refine yS fun _ K1 => ?_
 refine yR ?_
 refine yA rfl rfl ?_
 refine yN ?_
 dsimp only [St.put]
 refine K1 _ ?_
 refine yS fun _ K2 => ?_
 refine yR ?_
 refine yL rfl rfl rfl ?_
 refine yM rfl rfl ?_
 refine aa rfl (ue (m := s) (n := k) rfl rfl rfl hk (by show (s : Int) ≤ 9223372036854775807; omega) (by decide)) ?_
 refine aa rfl (uh (m := s / 2 ^ k) rfl rfl rfl (Nat.lt_of_le_of_lt (Nat.div_le_self _ _) (by show s < 2 ^ 64; omega)) (by decide)) ?_
 refine aa rfl (fp rfl rfl rfl) ?_
 refine yA rfl rfl ?_
 refine yN ?_
 dsimp only [St.put]
 refine K2 _ ?_
 refine aq ?_
 refine bh rfl (by constructor) zN zS ?_
 exact vb (uax s k)
set_option maxHeartbeats 1000000 in
theorem ucy (p : af) (R C : Nat → Int) (s : Nat) (h : ez p) (hB : Bd p R C) (hs : s ≤ 1000) : Pure Tryd.prog 68 [val (gh p R C), .v (.int .i64 (s : Int))] (.v (.int .i64 ((bi p).f R C fun i => s.testBit i))) := by
 refine c5 Tryd.func68 rfl (fun m => .v) fun G nx => ?_
 simp only [Tryd.ntmps68, List.length_cons, List.length_nil, Nat.reduceAdd, Nat.reduceSub]
 refine bu fun hlt => ?_
 dsimp only at hlt
 have hnr := hB.nr
 have hnp := hB.np
 have hl1 := jq (cc p) R
 have hl2 := jq p.pages.length C
 refine yS fun _ K1 => ?_
 refine yR ?_
 try dsimp only [St.put]
 refine yB rfl rfl rfl ?_
 try dsimp only [St.put]
 refine yB rfl rfl rfl ?_
 refine yA rfl rfl ?_
 refine yN ?_
 dsimp only [St.put]
 refine K1 _ ?_
 refine yS fun _ K2 => ?_
 refine yR ?_
 refine yA rfl rfl ?_
 refine yN ?_
 dsimp only [St.put]
 refine K2 _ ?_
 refine yS fun _ K3 => ?_
 refine yS fun _ K4 => ?_
 refine yR ?_
 refine yF rfl rfl rfl rfl ?_
 refine yL rfl rfl rfl ?_
 refine aa rfl (bp rfl rfl (List.length_map _)) ?_
 refine yM rfl rfl ?_
 refine yN ?_
 dsimp only [St.put]
 refine K4 _ ?_
 refine bk ?_
 refine cp 14 ?_
 refine zQ ?_
 refine dq (G) zX ?_
 dsimp only
 refine dp (X := Nat) (fun i => i ≤ cc p) (fun i => cc p - i) (fun i => [(5, .v (.int .i64 (fR R (fun i => s.testBit i) i))), (6, .any), (7, .any), (13, .v (.int .i64 (i : Int)))]) (fun i G' => G') 0 rfl ?_ ?_ (fun _ _ h => h) ?_ ?_ ?_
 ·exact Nat.zero_le _
 ·exact zF
 ·rintro i hI
  exact zL
 ·exact fun _ _ _ _ h => .inl h
 rintro i hI
 dsimp only at hI ⊢
 refine yS fun _ K5 => ?_
 refine yR ?_
 refine aa rfl (cv rfl rfl rfl) ?_
 refine yN ?_
 dsimp only [St.put]
 refine K5 _ ?_
 refine yS fun _ K6 => ?_
 refine ar rfl (fun hc => ?_) (fun hc => ?_)
 ·replace hc := of_decide_eq_true hc
  have hi : i < cc p := by
   have : (i : Int) < ((cx (cc p) R).length : Int) := hc
   rw [hl1] at this
   omega
  have hRi := nl R hi
  have hbd := uam hB (fun i => s.testBit i) i (by omega)
  have hrb := hB.r i
  have hmb : -1000000 ≤ R i * ((s / 2 ^ i % 2 : Nat) : Int) ∧ R i * ((s / 2 ^ i % 2 : Nat) : Int) ≤ 1000000 := by
   rw [uf2]
   cases s.testBit i
   ·show -1000000 ≤ (0 : Int) ∧ (0 : Int) ≤ 1000000
    omega
   exact hrb
  refine ax ?_
  refine K6 _ ?_
  refine yS fun _ K7 => ?_
  refine bk ?_
  refine yS fun _ K8 => ?_
  refine yR ?_
  refine yM rfl rfl ?_
  refine aa rfl (cb rfl rfl rfl rfl (ca (by assumption)) (Enc.len _)) ?_
  refine yL rfl rfl rfl ?_
  refine yA rfl rfl ?_
  refine yA rfl rfl ?_
  refine yN ?_
  dsimp only [St.put]
  refine K8 _ ?_
  refine yR ?_
  refine yM rfl rfl ?_
  refine yM rfl rfl ?_
  refine yL rfl rfl rfl ?_
  refine yM rfl rfl ?_
  refine aa rfl (ue (m := s) (n := i) rfl rfl rfl (by show i ≤ 64; omega) (by show (s : Int) ≤ 9223372036854775807; omega) (by decide)) ?_
  refine aa rfl (uh (m := s / 2 ^ i) rfl rfl rfl (Nat.lt_of_le_of_lt (Nat.div_le_self _ _) (by show s < 2 ^ 64; omega)) (by decide)) ?_
  refine aa rfl (zr rfl rfl rfl (by omega)) ?_
  refine aa rfl (cg rfl rfl rfl (by omega)) ?_
  refine yA rfl rfl ?_
  refine yN ?_
  dsimp only [St.put]
  refine K7 _ ?_
  refine yR ?_
  refine aa rfl (cg rfl rfl rfl (by omega)) ?_
  refine yM rfl rfl ?_
  refine yN ?_
  dsimp only [St.put]
  rw [uf2, ← umx R (fun i => s.testBit i) i]
  exact ⟨i + 1, by omega, by omega, ⟨⟨rfl, rfl⟩, zF, zB, zN, zX⟩⟩
 replace hc := of_decide_eq_false hc
 obtain rfl : i = cc p := by
  have : ¬ (i : Int) < ((cx (cc p) R).length : Int) := hc
  rw [hl1] at this
  omega
 have hfr := uam hB (fun i => s.testBit i) _ (Nat.le_refl (cc p))
 obtain ⟨FR, hFR⟩ : ∃ FR, fR R (fun i => s.testBit i) (cc p) = FR := ⟨_, rfl⟩
 rw [hFR] at hfr
 refine dj ?_
 refine K3 _ ?_
 refine yS fun _ K9 => ?_
 refine yS fun _ K10 => ?_
 refine yR ?_
 refine yF rfl rfl rfl rfl ?_
 refine yL rfl rfl rfl ?_
 refine aa rfl (bp rfl rfl (List.length_map _)) ?_
 refine yM rfl rfl ?_
 refine yN ?_
 dsimp only [St.put]
 rw [hFR, show FR = FR + fC p C (fun i => s.testBit i) 0 by show FR = FR + 0; omega]
 refine K10 _ ?_
 refine bk ?_
 refine cp 31 ?_
 refine zQ ?_
 refine dq (G) zX ?_
 dsimp only
 refine dp (X := Nat) (fun j => j ≤ p.pages.length) (fun j => p.pages.length - j) (fun j => [(5, .v (.int .i64 (FR + fC p C (fun i => s.testBit i) j))), (8, .any), (9, .any), (30, .v (.int .i64 (j : Int)))]) (fun j G' => G') 0 rfl ?_ ?_ (fun _ _ h => h) ?_ ?_ ?_
 ·exact Nat.zero_le _
 ·exact zF
 ·rintro j hI
  exact zL
 ·exact fun _ _ _ _ h => .inl h
 rintro j hJ
 dsimp only at hJ ⊢
 refine yS fun _ K11 => ?_
 refine yR ?_
 refine aa rfl (cv rfl rfl rfl) ?_
 refine yN ?_
 dsimp only [St.put]
 refine K11 _ ?_
 refine yS fun _ K12 => ?_
 refine ar rfl (fun hc => ?_) (fun hc => ?_)
 ·replace hc := of_decide_eq_true hc
  have hj : j < p.pages.length := by
   have : (j : Int) < ((cx p.pages.length C).length : Int) := hc
   rw [hl2] at this
   omega
  obtain ⟨x, hx⟩ : ∃ x, p.pages[j]? = some x := dr hj
  have hrx := wh hx
  have hCj := nl C hj
  have hcb := hB.c j
  have hfc := ue7 hB (fun i => s.testBit i) j (by omega)
  have hhit := ueh hx fun i => s.testBit i
  refine ax ?_
  refine K12 _ ?_
  refine yS fun _ K13 => ?_
  refine bk ?_
  refine yS fun _ K14 => ?_
  refine yR ?_
  refine yM rfl rfl ?_
  refine aa rfl (cb rfl rfl rfl rfl (ca (by assumption)) (Enc.len _)) ?_
  refine yL rfl rfl rfl ?_
  refine yA rfl rfl ?_
  refine yA rfl rfl ?_
  refine yN ?_
  dsimp only [St.put]
  refine K14 _ ?_
  refine yS fun _ K15 => ?_
  refine yR ?_
  refine yF rfl rfl rfl rfl ?_
  refine yL rfl rfl rfl ?_
  refine yM rfl rfl ?_
  refine aa rfl (cb rfl rfl rfl rfl (ca (by assumption)) (Enc.len _)) ?_
  refine yL rfl rfl rfl ?_
  refine aa rfl (pu rfl rfl) ?_
  try dsimp only [St.put]
  refine ae rfl (ay rfl rfl rfl (yc (da p x) (fun z => s.testBit z.toNat) _ _ fun z hz => by obtain ⟨zn, rfl, h6⟩ := ujm h hx hz; exact ukd zn s (by omega) hs) ?_)
  refine aa rfl (eb rfl rfl) ?_
  refine yN ?_
  dsimp only [St.put]
  refine K15 _ ?_
  refine ar rfl (fun hc => ?_) (fun hc => ?_)
  ·have hhn : (bi p).hit (fun i => s.testBit i) j = false := by rw [hhit]; simpa using hc
   refine yR ?_
   refine yM rfl rfl ?_
   refine yM rfl rfl ?_
   refine aa rfl (cg rfl rfl rfl (by omega)) ?_
   refine yA rfl rfl ?_
   refine yN ?_
   dsimp only [St.put]
   refine K13 _ ?_
   refine yR ?_
   refine aa rfl (cg rfl rfl rfl (by omega)) ?_
   refine yM rfl rfl ?_
   refine yN ?_
   dsimp only [St.put]
   have e := ue6 p C (fun i => s.testBit i) j
   first
   | (have z : (bi p).hit (fun i => s.testBit i) j = true := hhy
      rw [z, cond_true, Int.add_zero] at e
      rw [← e]
      exact ⟨j + 1, by omega, by omega, ⟨⟨rfl, rfl⟩, zF, zB, zN, zX⟩⟩)
   | (have z : (bi p).hit (fun i => s.testBit i) j = false := hhn
      rw [z, cond_false] at e
      rw [Int.add_assoc, ← e]
      exact ⟨j + 1, by omega, by omega, ⟨⟨rfl, rfl⟩, zF, zB, zN, zX⟩⟩)
  have hhy : (bi p).hit (fun i => s.testBit i) j = true := by rw [hhit]; simpa using hc
  refine ax ?_
  refine K13 _ ?_
  refine yR ?_
  refine aa rfl (cg rfl rfl rfl (by omega)) ?_
  refine yM rfl rfl ?_
  refine yN ?_
  dsimp only [St.put]
  have e := ue6 p C (fun i => s.testBit i) j
  first
  | (have z : (bi p).hit (fun i => s.testBit i) j = true := hhy
     rw [z, cond_true, Int.add_zero] at e
     rw [← e]
     exact ⟨j + 1, by omega, by omega, ⟨⟨rfl, rfl⟩, zF, zB, zN, zX⟩⟩)
  | (have z : (bi p).hit (fun i => s.testBit i) j = false := hhn
     rw [z, cond_false] at e
     rw [Int.add_assoc, ← e]
     exact ⟨j + 1, by omega, by omega, ⟨⟨rfl, rfl⟩, zF, zB, zN, zX⟩⟩)
 replace hc := of_decide_eq_false hc
 obtain rfl : j = p.pages.length := by
  have : ¬ (j : Int) < ((cx p.pages.length C).length : Int) := hc
  rw [hl2] at this
  omega
 refine dj ?_
 refine K9 _ ?_
 refine yS fun _ K16 => ?_
 refine yR ?_
 refine yM rfl rfl ?_
 refine yA rfl rfl ?_
 refine yN ?_
 dsimp only [St.put]
 refine K16 _ ?_
 refine aq ?_
 refine bh rfl (by constructor) zN zS ?_
 exact vi (by rw [ue0, hFR])
set_option maxHeartbeats 1000000 in
theorem ua (p : af) (R C : Nat → Int) (h : ez p) (hB : Bd p R C) : Pure Tryd.prog 58 [val (gh p R C)] (.v (.int .i64 ((bi p).most R C))) := by
 refine c5 Tryd.func58 rfl (fun m => .v) fun G nx => ?_
 simp only [Tryd.ntmps58, List.length_cons, List.length_nil, Nat.reduceAdd, Nat.reduceSub]
 refine bu fun hlt => ?_
 dsimp only at hlt
 have hnr := hB.nr
 have hl1 := jq (cc p) R
 have h64 : 2 ^ cc p ≤ 2 ^ 6 := Nat.pow_le_pow_right (by omega) hnr
 have hpos : 0 < 2 ^ cc p := Nat.two_pow_pos _
 obtain ⟨g, hg⟩ : ∃ g : Nat → Int, (fun s => (bi p).f R C fun i => s.testBit i) = g := ⟨_, rfl⟩
 have hgs : ∀ s : Nat, (bi p).f R C (fun i => s.testBit i) = g s := fun s => congrFun hg s
 have hP : ∀ s : Nat, s ≤ 1000 → Pure Tryd.prog 68 [val (gh p R C), .v (.int .i64 (s : Int))] (.v (.int .i64 (g s))) := fun s hs => by
  have := ucy p R C s h hB hs
  rwa [hgs] at this
 have hgb : ∀ s, -6000000 ≤ g s ∧ g s ≤ 14000000 := fun s => by rw [← hgs]; exact f_bd hB _
 refine yS fun _ K1 => ?_
 refine yR ?_
 try dsimp only [St.put]
 refine yB rfl rfl rfl ?_
 refine yA rfl rfl ?_
 refine yN ?_
 dsimp only [St.put]
 refine K1 _ ?_
 refine yS fun _ K2 => ?_
 refine yR ?_
 try dsimp only [St.put]
 refine bg rfl (c := val (gh p R C)) (ju (cs := cells (gh p R C)) rfl rfl (show 3 ≤ 3 by decide)) ?_
 try dsimp only [St.put]
 refine ae rfl (ay rfl rfl rfl (hP 0 (by omega)) ?_)
 refine yA rfl rfl ?_
 refine yN ?_
 dsimp only [St.put]
 refine K2 _ ?_
 refine yS fun _ K3 => ?_
 refine yS fun _ K4 => ?_
 refine yR ?_
 refine yF rfl rfl rfl rfl ?_
 refine yL rfl rfl rfl ?_
 refine aa rfl (bp rfl rfl (List.length_map _)) ?_
 refine aa rfl (udi (n := (cx (cc p) R).length) rfl rfl rfl (by rw [hl1]; omega)) ?_
 refine yM rfl rfl ?_
 refine yN ?_
 dsimp only [St.put]
 refine K4 _ ?_
 refine bk ?_
 refine cp 12 ?_
 refine zQ ?_
 refine dq (G) zX ?_
 dsimp only
 refine dp (X := Nat) (fun s => s ≤ 2 ^ cc p) (fun s => 2 ^ cc p - s) (fun s => [(3, .v (.int .i64 (ml g s))), (4, .any), (11, .v (.int .i64 (s : Int)))]) (fun s G' => G') 0 rfl ?_ ?_ (fun _ _ h => h) ?_ ?_ ?_
 ·exact Nat.zero_le _
 ·exact zF
 ·rintro s hI
  exact zL
 ·exact fun _ _ _ _ h => .inl h
 rintro s hI
 dsimp only at hI ⊢
 refine yS fun _ K5 => ?_
 refine yR ?_
 refine aa rfl (cv rfl rfl rfl) ?_
 refine yN ?_
 dsimp only [St.put]
 refine K5 _ ?_
 refine yS fun _ K6 => ?_
 refine ar rfl (fun hc => ?_) (fun hc => ?_)
 ·replace hc := of_decide_eq_true hc
  have hlt : s < 2 ^ cc p := by
   have : (s : Int) < ((2 ^ (cx (cc p) R).length : Nat) : Int) := hc
   rw [hl1] at this
   omega
  have hmb := udt hgb s
  have hgb1 := hgb s
  refine ax ?_
  refine K6 _ ?_
  refine yS fun _ K7 => ?_
  refine bk ?_
  refine yS fun _ K8 => ?_
  refine yR ?_
  refine yM rfl rfl ?_
  refine yA rfl rfl ?_
  refine yN ?_
  dsimp only [St.put]
  refine K8 _ ?_
  refine yR ?_
  refine yM rfl rfl ?_
  try dsimp only [St.put]
  refine bg rfl (c := val (gh p R C)) (ju (cs := cells (gh p R C)) rfl rfl (show 3 ≤ 3 by decide)) ?_
  refine yM rfl rfl ?_
  try dsimp only [St.put]
  refine ae rfl (ay rfl rfl rfl (hP s (by omega)) ?_)
  refine aa rfl (udl rfl rfl rfl rfl) ?_
  refine yA rfl rfl ?_
  refine yN ?_
  dsimp only [St.put]
  refine K7 _ ?_
  refine yR ?_
  refine aa rfl (cg rfl rfl rfl (by omega)) ?_
  refine yM rfl rfl ?_
  refine yN ?_
  dsimp only [St.put]
  rw [show min (ml g s) (g s) = ml g (s + 1) from rfl]
  exact ⟨s + 1, by omega, by omega, ⟨⟨rfl, rfl⟩, zF, zB, zN, zX⟩⟩
 replace hc := of_decide_eq_false hc
 obtain rfl : s = 2 ^ cc p := by
  have : ¬ (s : Int) < ((2 ^ (cx (cc p) R).length : Nat) : Int) := hc
  rw [hl1] at this
  omega
 refine dj ?_
 refine K3 _ ?_
 refine yS fun _ K9 => ?_
 refine yR ?_
 refine yM rfl rfl ?_
 refine yA rfl rfl ?_
 refine yN ?_
 dsimp only [St.put]
 refine K9 _ ?_
 refine aq ?_
 refine bh rfl (by constructor) zN zS ?_
 exact vi (by unfold Net.most; rw [hg]; rfl)
theorem ucz (p : af) (R C : Nat → Int) (j : Nat) (x : am) (h : ez p) (hx : p.pages[j]? = some x) : Pure Tryd.prog 66 [val (gh p R C), .v (.int .i64 (j : Int))] (.v (.int .i64 ((bi p).alone R C j))) := by
 refine c5 Tryd.func66 rfl (fun m => .v) fun G nx => ?_
 simp only [Tryd.ntmps66, List.length_cons, List.length_nil, Nat.reduceAdd, Nat.reduceSub]
 refine bu fun hlt => ?_
 dsimp only at hlt
 have hjl := (List.getElem?_eq_some_iff.1 hx).1
 have hCj := nl C hjl
 have hrx := wh hx
 have hn1 := h.nf
 have hn2 := h.ns
 have hnr : cc p = p.firsts.length + p.seconds.length := rfl
 have hrl := zb p x
 refine yS fun _ K1 => ?_
 refine yR ?_
 try dsimp only [St.put]
 refine yB rfl rfl rfl ?_
 refine yA rfl rfl ?_
 refine yN ?_
 dsimp only [St.put]
 refine K1 _ ?_
 refine yS fun _ K2 => ?_
 refine yR ?_
 refine yF rfl rfl rfl rfl ?_
 refine yL rfl rfl rfl ?_
 refine yM rfl rfl ?_
 refine aa rfl (cb rfl rfl rfl rfl (ca (by assumption)) (Enc.len _)) ?_
 refine yL rfl rfl rfl ?_
 refine yA rfl rfl ?_
 refine yN ?_
 dsimp only [St.put]
 refine K2 _ ?_
 refine yS fun _ K3 => ?_
 refine yS fun _ K4 => ?_
 refine yR ?_
 refine yF rfl rfl rfl rfl ?_
 refine yL rfl rfl rfl ?_
 refine yM rfl rfl ?_
 refine aa rfl (cb rfl rfl rfl rfl (ca (by assumption)) (Enc.len _)) ?_
 refine yL rfl rfl rfl ?_
 refine aa rfl (bp rfl rfl (List.length_map _)) ?_
 refine yM rfl rfl ?_
 refine yN ?_
 dsimp only [St.put]
 refine K4 _ ?_
 refine bk ?_
 refine cp 20 ?_
 refine zQ ?_
 refine dq (G) zX ?_
 dsimp only
 refine dp (X := Nat) (fun k => k ≤ (da p x).length) (fun k => (da p x).length - k) (fun k => [(5, .v (.int .i64 (ry R (C j) ((da p x).take k)))), (7, .any), (19, .v (.int .i64 (k : Int)))]) (fun k G' => G') 0 rfl ?_ ?_ (fun _ _ h => h) ?_ ?_ ?_
 ·exact Nat.zero_le _
 ·exact zF
 ·rintro k hI
  exact zL
 ·exact fun _ _ _ _ h => .inl h
 rintro k hI
 dsimp only at hI ⊢
 refine yS fun _ K5 => ?_
 refine yR ?_
 refine aa rfl (cv rfl rfl rfl) ?_
 refine yN ?_
 dsimp only [St.put]
 refine K5 _ ?_
 refine yS fun _ K6 => ?_
 refine ar rfl (fun hc => ?_) (fun hc => ?_)
 ·replace hc := of_decide_eq_true hc
  obtain ⟨zn, hz, hz6⟩ := za h hx (k := k) (by omega)
  have hRz := nl R hz6
  refine ax ?_
  refine K6 _ ?_
  refine yS fun _ K7 => ?_
  refine bk ?_
  refine yS fun _ K8 => ?_
  refine yR ?_
  refine aa rfl (cb rfl rfl rfl rfl (ca (by assumption)) (Enc.len _)) ?_
  refine yL rfl rfl rfl ?_
  refine yA rfl rfl ?_
  refine yN ?_
  dsimp only [St.put]
  refine K8 _ ?_
  refine yR ?_
  refine yM rfl rfl ?_
  refine yF rfl rfl rfl rfl ?_
  refine yL rfl rfl rfl ?_
  refine yM rfl rfl ?_
  refine aa rfl (cb rfl rfl rfl rfl (ca (by assumption)) (Enc.len _)) ?_
  refine yL rfl rfl rfl ?_
  refine aa rfl (udl rfl rfl rfl rfl) ?_
  refine yA rfl rfl ?_
  refine yN ?_
  dsimp only [St.put]
  refine K7 _ ?_
  refine yR ?_
  refine aa rfl (cg rfl rfl rfl (by omega)) ?_
  refine yM rfl rfl ?_
  refine yN ?_
  dsimp only [St.put]
  have e := uli (R := R) (c := C j) hz
  rw [Int.toNat_natCast] at e
  rw [← e]
  exact ⟨k + 1, by omega, by omega, ⟨⟨rfl, rfl⟩, zF, zB, zN, zX⟩⟩
 replace hc := of_decide_eq_false hc
 refine dj ?_
 refine K3 _ ?_
 refine yS fun _ K9 => ?_
 refine yR ?_
 refine yM rfl rfl ?_
 refine yA rfl rfl ?_
 refine yN ?_
 dsimp only [St.put]
 refine K9 _ ?_
 refine aq ?_
 refine bh rfl (by constructor) zN zS ?_
 exact vi (by rw [gw (show (da p x).length ≤ k by omega), uof hx])
end Go.Proofs.YtbbdginipiljdaaDoor
namespace Go.AB
open Go Go.RowKit
/-- what an operation waits for -/
def m5 (o : Oper) : List Nat := (o.after.toList.filter fun e => Region.binds .any e).map (·.on)
def n1 (l : List Bool) : Nat := (l.filter fun b => !b).length
theorem w5 : ∀ {l : List Bool} {i : Nat}, l[i]? = some false → n1 (l.set i true) + 1 = n1 l
 | [], i, h => by simp at h
 | b :: l, 0, h => by
  simp only [List.getElem?_cons_zero, Option.some.injEq] at h
  subst h
  simp [n1]
 | b :: l, i + 1, h => by
  simp only [List.getElem?_cons_succ] at h
  have ih := w5 h
  unfold n1 at ih ⊢
  cases b
  ·simp only [List.set_cons_succ, List.filter_cons, Bool.not_false, if_true, List.length_cons]; omega
  ·simp only [List.set_cons_succ, List.filter_cons, Bool.not_true, Bool.false_eq_true, if_false]; omega
theorem udc {l : List Bool} (h : n1 l = 0) (i : Nat) : l[i]? ≠ some false := fun e => by
 have := w5 e
 omega
theorem y8 {ol : List Oper} {l : List Bool} {i : Nat} (h : i ∈ Region.ready .any ol.toArray l.toArray) (hl : l.length = ol.length) : ∃ o, ol[i]? = some o ∧ l[i]? = some false ∧ ∀ j ∈ m5 o, l[j]? = some true := by
 unfold Region.ready at h
 simp only [List.mem_filter, List.mem_range, List.size_toArray, Bool.and_eq_true, Bool.not_eq_true'] at h
 obtain ⟨h1, h2, h3⟩ := h
 obtain ⟨o, ho⟩ : ∃ o, ol[i]? = some o := ⟨_, List.getElem?_eq_getElem h1⟩
 refine ⟨o, ho, ?_, fun j hj => ?_⟩
 ·have e := List.getElem?_eq_getElem (l := l) (i := i) (by omega)
  rw [Array.getD_eq_getD_getElem?, List.getElem?_toArray, e] at h2
  rw [e, ← h2]; rfl
 ·rw [List.getElem?_toArray, ho] at h3
  simp only [Option.map_some, Option.getD_some] at h3
  rw [← Array.all_toList, List.all_eq_true] at h3
  unfold m5 at hj
  obtain ⟨e, he, rfl⟩ := List.mem_map.1 hj
  obtain ⟨he1, he2⟩ := List.mem_filter.1 he
  have := h3 e he1
  rw [he2, Bool.not_true, Bool.false_or, Array.getD_eq_getD_getElem?, List.getElem?_toArray] at this
  cases hb : l[e.on]? with
  | none => rw [hb] at this; cases this
  | some b => rw [hb] at this; rw [show b = true from this]
section
variable {P : Program} {ol : List Oper} {K : St → Prop} {late : Nat → Bool}
/-- one operation of what is left, by what holds behind it -/
def AOneI (P : Program) (ol : List Oper) (I : List Bool → St → Prop) (l : List Bool) (i : Nat) (st : St) : Prop :=
 ∃ o, ol[i]? = some o ∧ ((et ol.toArray st o = some true ∧ EStep P o st (I (l.set i true))) ∨ (et ol.toArray st o = some false ∧ I (l.set i true) (st.put o.dst (.tup []))))
/-- whether each operation waits only for earlier ones -/
def ux (ol : List Oper) : Bool := (List.range ol.length).all fun i => ((ol[i]?).map fun o => (m5 o).all fun j => decide (j < i)).getD true
theorem y7 {l : List Bool} (hf : ux ol = true) (hl : l.length = ol.length) (h : Region.ready .any ol.toArray l.toArray = []) : ∀ i, i < ol.length → l[i]? = some true := by
 intro i
 induction i using Nat.strongRecOn with
 | _ i ih =>
  intro hi
  obtain ⟨o, ho⟩ : ∃ o, ol[i]? = some o := ⟨_, List.getElem?_eq_getElem hi⟩
  have e := List.getElem?_eq_getElem (l := l) (i := i) (by omega)
  cases hb : l[i]'(by omega) with
  | true => rw [e, hb]
  | false =>
   exfalso
   have hm : i ∈ Region.ready .any ol.toArray l.toArray := by
    unfold Region.ready
    simp only [List.mem_filter, List.mem_range, List.size_toArray, Bool.and_eq_true, Bool.not_eq_true']
    refine ⟨hi, by rw [Array.getD_eq_getD_getElem?, List.getElem?_toArray, e, hb]; rfl, ?_⟩
    rw [List.getElem?_toArray, ho]
    simp only [Option.map_some, Option.getD_some]
    rw [← Array.all_toList, List.all_eq_true]
    intro e1 he1
    cases hq : Region.binds .any e1 with
    | false => rfl
    | true =>
     rw [Bool.not_true, Bool.false_or, Array.getD_eq_getD_getElem?, List.getElem?_toArray]
     have hj : e1.on ∈ m5 o := List.mem_map.2 ⟨e1, List.mem_filter.2 ⟨he1, hq⟩, rfl⟩
     have h1 := List.all_eq_true.1 hf i (List.mem_range.2 hi)
     rw [ho] at h1
     simp only [Option.map_some, Option.getD_some, List.all_eq_true] at h1
     have hlt := of_decide_eq_true (h1 _ hj)
     rw [ih _ hlt (by omega)]; rfl
   rw [h] at hm
   cases hm
theorem ua4 (I : List Bool → St → Prop) (hf : ux ol = true) (hl : ∀ l st, I l st → l.length = ol.length)
  (hs : ∀ l st i o, I l st → ol[i]? = some o → l[i]? = some false → (∀ j ∈ m5 o, l[j]? = some true) → AOneI P ol I l i st)
  (he : ∀ l st, I l st → (∀ i, i < ol.length → l[i]? = some true) → K st) : ∀ (fuel : Nat) (l : List Bool) (st : St), I l st → n1 l = fuel → lj P ol K late fuel l st
 | 0, l, st, hI, h0 => by
  have hr : Region.ready .any ol.toArray l.toArray = [] := by
   cases h : Region.ready .any ol.toArray l.toArray with
   | nil => rfl
   | cons i is =>
    obtain ⟨o, _, h2, _⟩ := y8 (i := i) (by rw [h]; exact List.mem_cons_self ..) (hl l st hI)
    exact absurd h2 (udc h0 i)
  exact ia (by rw [hr]; rfl) (he l st hI (y7 hf (hl l st hI) hr))
 | fuel + 1, l, st, hI, h0 => by
  cases h : Region.ready .any ol.toArray l.toArray with
  | nil => exact ia (by rw [h]; rfl) (he l st hI (y7 hf (hl l st hI) h))
  | cons i is =>
   refine c7 (i :: is) (by rw [h]; exact beq_self_eq_true _) (by simp) ?_
   have hall : ∀ js : List Nat, (∀ j ∈ js, j ∈ Region.ready .any ol.toArray l.toArray) → s9 P ol K late fuel l st js := by
    intro js
    induction js with
    | nil => intro _; trivial
    | cons j js ih =>
     intro hjs
     refine ⟨?_, ih fun k hk => hjs k (List.mem_cons_of_mem _ hk)⟩
     obtain ⟨o, ho, h2, h3⟩ := y8 (hjs j (List.mem_cons_self ..)) (hl l st hI)
     have hn : n1 (l.set j true) = fuel := by have := w5 h2; omega
     obtain ⟨o', ho', hc⟩ := hs l st j o hI ho h2 h3
     refine ⟨o', ho', ?_⟩
     rcases hc with ⟨hg, hE⟩ | ⟨hg, hE⟩
     ·exact .inl ⟨hg, hE.mono fun st' h' => ua4 I hf hl hs he fuel _ _ h' hn⟩
     ·exact .inr ⟨hg, ua4 I hf hl hs he fuel _ _ hE hn⟩
   exact hall (i :: is) fun j hj => by rw [h]; exact hj
end
theorem ukm {w : World} {B B' : Nat} {tt : TypeId} {sz len : Nat} {val : Value} {us us' : List Value} (h : w.ownsRow B tt sz val len us) (k : w.ownsRow B' tt sz val len us') : us = us' := by
 obtain ⟨l1, h1⟩ := h
 obtain ⟨l2, h2⟩ := k
 rcases h1 with ⟨e, h0⟩ | ⟨g, cap, cur, e, _, hh, _, _, _, ht⟩
 ·subst h0
  rw [Nat.zero_mul] at l1 l2
  rw [List.length_eq_zero_iff.1 l1, List.length_eq_zero_iff.1 l2]
 ·rcases h2 with ⟨e', _⟩ | ⟨g', cap', cur', e', _, hh', _, _, _, ht'⟩
  ·rw [e] at e'; cases e'
  ·rw [e] at e'
   cases e'
   rw [hh] at hh'
   cases hh'
   rw [← ht, ← ht']
/-- an own slice laid for good, as a cell of another one holds it -/
theorem ugf {P : Program} {ρ : Option Nat} {Q : Exit → St → Prop} {st : St} {c : Code} {α : Type} [Enc α] (m off : Nat) {n ver wv wm len sz verm szm lenm : Nat} {tt ttm : TypeId} {cs ds : List C} (xs : List α) (hM : st.G m = some (.arr verm wm ttm szm lenm ds)) (h0 : ds[off]? = some (.own n ver len)) (hG : st.G n = some (.arr ver wv tt sz len cs)) (hnm : m ≠ n) (hsz : sz = Enc.n α) (hcs : cs = cr xs) (hlen : len = xs.length) (h : AW ρ P c Q { st with G := ak (mp st.G n) m (.arr verm wm ttm szm lenm (ds.set off (lst xs))) }) : AW ρ P c Q st := by
 intro E w a hs
 obtain ⟨E', hE, hg', hl⟩ := zh hs.g xs hG hsz hcs hlen
 obtain ⟨val, us, hT, how, hone, hr, hL, hpos⟩ := hg'.obj m (.arr verm wm ttm szm lenm ds) (by rw [l9 hnm]; exact hM)
 obtain ⟨val2, us2, hT2, how2, _, hr2, _, _⟩ := hs.g.obj m _ hM
 have hs2 := hs.evd hE hg'
 have hTT : val = val2 := by
  obtain ⟨ver1, wv1, val1, q1, q2, q3⟩ := hE.T m (hs.g.lt m _ hT2) _ _ _ hT
  rw [hT2] at q1
  simp only [Option.some.injEq, Prod.mk.injEq] at q1
  obtain ⟨rfl, rfl, rfl⟩ := q1
  exact (q3 rfl).1.symm
 subst hTT
 have e1 : us = us2 := ukm how how2
 subst e1
 refine il (fun _ _ _ hq => my hE hq) (h E' w a ⟨hs.d.ev hE, hs.sz, hs2.t, ⟨hg'.nx, fun k o ho => ?_, hg'.lt, hg'.tb, hg'.ap, hg'.fresh, hg'.base⟩⟩)
 simp only [ak] at ho
 split at ho
 ·rename_i ek
  subst ek
  simp only [Option.some.injEq] at ho
  subst ho
  refine ⟨val, us, hT, how, fun d hd => ?_, ⟨by rw [hr.1]; simp, fun j d v hd hv => ?_⟩, hL, hpos⟩
  ·rcases List.mem_or_eq_of_mem_set hd with hd | rfl
   ·exact hone d hd
   ·rfl
  ·rw [List.getElem?_set] at hd
   split at hd
   ·rename_i ej
    subst ej
    split at hd
    ·simp only [Option.some.injEq] at hd
     subst hd
     exact hl v (hr2.2 off _ v h0 hv)
    ·cases hd
   ·exact hr.2 j d v hd hv
 ·exact hg'.obj k o ho
theorem uck {cs : List C} {i : Nat} {c c0 : C} (h : cs[i]? = some c0) : (putAt cs i [c]).set i c0 = cs := by
 have hl := (List.getElem?_eq_some_iff.1 h).1
 show (cs.set i c).set i c0 = cs
 rw [List.set_set]
 obtain rfl := Option.some.inj ((List.getElem?_eq_getElem hl).symm.trans h)
 exact List.set_getElem_self hl
end Go.AB
namespace Go.AB
open Go Go.RowKit
variable {ρ : Option Nat}
section
variable {P : Program} {ops : Array Oper} {Q : Exit → Act → World → Prop} {S : World → Prop} {late : Nat → Bool}
/-- Values alone: whatever has come up. -/
theorem ug5 {S2 : World → Prop} (fin : Act → World → Prop) (fuel : Nat) (hs : Region.noSelect ops = true) (hQ : ∀ (o : Option Tmp) (v : Value) c a w, Q (.panic c) (a.put o v) w → Q (.panic c) a w) :
  ∀ (π : List (Nat × Option Nat)) (listed : Array Bool) (a : Act) (w : World), Closed .any ops listed → m9 ops late (fun _ => true) π listed = true →
   (∀ a, fin a w → ix P .any ops Q S late fuel (l8 π listed) a w) → gp P ops (jk fin) S2 late (fun _ => false) (fun _ => true) π a w → ix P .any ops Q S late (gl π + fuel) listed a w := by
 intro π
 induction π with
 | nil =>
  intro listed a w _ _ hf h
  have := hf a h
  simpa [gl, l8] using this
 | cons p rest ih =>
  obtain ⟨i, m⟩ := p
  intro listed a w hcl hc hf h
  cases m with
  | some j => simp [m9] at hc
  | none =>
   simp only [m9, Bool.and_eq_true] at hc
   obtain ⟨⟨⟨⟨hready, hfree⟩, hsome⟩, hlate⟩, hc2⟩ := hc
   simp only [gp, Bool.false_eq_true, if_false] at h
   cases ho : ops[i]? with
   | none => rw [ho] at hsome; cases hsome
   | some o =>
    rw [ho] at h
    obtain ⟨v, hy, hrest⟩ := h
    have hi : i ∈ Region.ready .any ops listed := by simpa using hready
    have hrec := ih _ _ _ (hcl.set hi) hc2 hf hrest
    have hp : gl ((i, none) :: rest) + fuel = gl rest + fuel + 1 := by simp only [gl]; omega
    rw [hp]
    simp only [if_true] at hy
    exact te (depth := ops.size) (fun _ => True) ho (Region.noSelect_spec hs) (fun c a w => hQ o.dst v c a w) (.inl fun _ => trivial) (gl rest + fuel) listed a w hcl (Region.free_spec ho hfree) hi hy trivial hrec
end
section
variable (P : Program) (ol : List Oper) (K : St → Prop) (D : List Nat) (late : Nat → Bool)
/-- What is left, in whatever order; b: something late has come up. -/
def li (b : Bool) (fuel : Nat) (listed : List Bool) (st : St) : Prop :=
 ∀ (E0 : Env) (w0 : World) (Q : Act → World → Prop), (∀ a' w' st' E', Ev E0 w0 E' w' → Sim E' w' st' a' → K st' → Q a' w') →
  ∀ E1 w1 a, Ev E0 w0 E1 w1 → Sim E1 w1 st a → (b = false → ∀ n ∈ D, E1.T n = E0.T n) → ix P .any ol.toArray (jk Q) (Keeps E0 (· ∈ D) w0) late fuel listed.toArray a w1
def yd (b : Bool) (fuel : Nat) (listed : List Bool) (i : Nat) (st : St) : Prop :=
 ∃ o, ol[i]? = some o ∧ et ol.toArray st o = some true ∧ ((b = false ∧ EStep P o st fun st' => om D st st' ∧ li P ol K D late false fuel (listed.set i true) st') ∨ (late i = true ∧ EStep P o st (li P ol K D late true fuel (listed.set i true))))
def s8 (b : Bool) (fuel : Nat) (listed : List Bool) (st : St) : List Nat → Prop
 | [] => True
 | i :: is => yd P ol K D late b fuel listed i st ∧ s8 b fuel listed st is
end
section
variable {P : Program} {ol : List Oper} {K : St → Prop} {D : List Nat} {late : Nat → Bool} {b : Bool} {fuel : Nat} {listed : List Bool} {st : St} {i : Nat} {is : List Nat} {o : Oper} {c : C}
theorem sw : s8 P ol K D late b fuel listed st [] := trivial
theorem sx (h : yd P ol K D late b fuel listed i st) (k : s8 P ol K D late b fuel listed st is) : s8 P ol K D late b fuel listed st (i :: is) := ⟨h, k⟩
theorem sr (hL : late i = true) (hol : ol[i]? = some o) (hg : et ol.toArray st o = some true) {listed' : List Bool} (hl : listed.set i true = listed') (h : EStep P o st (li P ol K D late true fuel listed')) : yd P ol K D late b fuel listed i st :=
 ⟨o, hol, hg, .inr ⟨hL, by rw [hl]; exact h⟩⟩
theorem ugs (hr : (Region.ready .any ol.toArray listed.toArray == []) = true) (h : K st) : li P ol K D late b fuel listed st := by
 intro E0 w0 Q hQ E1 w1 a hev hs _
 have hr' : Region.ready .any ol.toArray listed.toArray = [] := by simpa using hr
 have hq := hQ a w1 st E1 hev hs h
 cases fuel with
 | zero => exact ⟨hr', hq⟩
 | succ n => exact ⟨fun _ => hq, fun i hi => by rw [hr'] at hi; cases hi⟩
theorem rj (is : List Nat) (hr : (Region.ready .any ol.toArray listed.toArray == is) = true) (hne : is ≠ []) (h : s8 P ol K D late b fuel listed st is) : li P ol K D late b (fuel + 1) listed st := by
 intro E0 w0 Q hQ E1 w1 a hev hs hb
 have hr' : Region.ready .any ol.toArray listed.toArray = is := by simpa using hr
 refine ⟨fun e => absurd (hr'.symm.trans e) hne, fun i hi => ?_⟩
 rw [hr'] at hi
 have hi' : yd P ol K D late b fuel listed i st := by
  clear hr hr' hne
  induction is with
  | nil => cases hi
  | cons j is ih =>
   rcases List.mem_cons.1 hi with rfl | hi
   ·exact h.1
   ·exact ih h.2 hi
 obtain ⟨o, hol, hg, hcase⟩ := hi'
 have ho : ol.toArray[i]? = some o := by simpa using hol
 have hset : listed.toArray.setIfInBounds i true = (listed.set i true).toArray := by simp
 refine wpOp_step ho fun Kr hK => ?_
 rw [if_pos (l6 hg hs)]
 rcases hcase with ⟨rfl, h1⟩ | ⟨hL, h1⟩
 ·refine h1 E1 w1 a hs Kr _ fun a' w' st' E' q1 q2 q3 => ?_
  have hk := xi hs q1 q2 q3.1
  refine hK a' w' ⟨.inr fun hS => ⟨fun b j hj => (q1.cell b j (Nat.lt_of_lt_of_le hj (hev.L b))).trans (hS.1 b j hj), fun n hn ver wv val b ht hb' => ?_⟩, ?_⟩
  ·have := hb rfl n hn
   exact ((hk n hn).2 ver wv val b (this.trans ht) hb').trans (hS.2 n hn ver wv val b ht hb')
  ·rw [hset]
   exact q3.2 E0 w0 Q hQ E' w' a' (hev.trans q1) q2 fun e n hn => (hk n hn).1.trans (hb rfl n hn)
 ·refine h1 E1 w1 a hs Kr _ fun a' w' st' E' q1 q2 q3 => ?_
  refine hK a' w' ⟨.inl hL, ?_⟩
  rw [hset]
  exact q3 E0 w0 Q hQ E' w' a' (hev.trans q1) q2 fun e => by cases e
theorem sy {total : Nat} (π : List (Nat × Option Nat)) (fuel : Nat) (listed' : List Bool)
  (hchk : (uat ol.toArray listed.toArray && (Region.noSelect ol.toArray && (m9 ol.toArray late (fun _ => true) π listed.toArray && ((l8 π listed.toArray).toList == listed' && total == gl π + fuel)))) = true)
  (h : jn P ol.toArray (fun st' => om D st st' ∧ li P ol K D late b fuel listed' st') [] late (fun _ => false) (fun _ => true) π st) : li P ol K D late b total listed st := by
 simp only [Bool.and_eq_true, beq_iff_eq] at hchk
 obtain ⟨h0, h1, h2, h3, h4⟩ := hchk
 subst h4
 intro E0 w0 Q hQ E1 w1 a hev hs hb
 have hend : l8 π listed.toArray = listed'.toArray := by rw [← h3]
 refine ug5 (S2 := Keeps E1 (· ∈ ([] : List Nat)) w1) (fun a' w' => ix P .any ol.toArray (jk Q) (Keeps E0 (· ∈ D) w0) late fuel listed'.toArray a' w') fuel h1 (fun _ _ _ _ _ h => h) π _ a w1 (ufq h0) h2 (fun a' h' => by rw [hend]; exact h') ?_
 exact h E1 w1 _ (fun a' w' st' E' q1 q2 q3 => q3.2 E0 w0 Q hQ E' w' a' (hev.trans q1) q2 fun e n hn => ((xi hs q1 q2 q3.1) n hn).1.trans (hb e n hn)) a hs
theorem ugd {id : Nat} {l : List Oper} {Q : Exit → St → Prop} (π : List (Nat × Option Nat)) (late N : Nat → Bool) (fuel : Nat) (listed : List Bool) (D : List Nat) (hm : P.follows .mixedOrders = true)
  (hchk : (rx l && (Region.noSelect l.toArray && (m9 l.toArray late N π (Array.replicate l.toArray.size false) && ((l8 π (Array.replicate l.toArray.size false)).toList == listed && gl π + fuel == l.toArray.size)))) = true)
  (h : jn P l.toArray (fun st' => om D st st' ∧ li P l (Q .normal) D late false fuel listed st') D late (fun _ => false) N π st) : AW ρ P (.region id l.toArray true) Q st := by
 intro E w a hs
 simp only [Bool.and_eq_true, beq_iff_eq] at hchk
 obtain ⟨h0, h1, h2, h3, h4⟩ := hchk
 have hev : Ev E w E w.drew := Ev.same ((Below.refl _ _).drew) rfl
 have hend : l8 π (Array.replicate l.toArray.size false) = listed.toArray := by rw [← h3]
 have key : ix P .any l.toArray (jk fun a' w' => n3 E w Q .normal a' w') (Keeps E (· ∈ D) w.drew) late (gl π + fuel) (Array.replicate l.toArray.size false) a w.drew := by
  refine ye (fun a' w' => ix P .any l.toArray (jk fun a' w' => n3 E w Q .normal a' w') (Keeps E (· ∈ D) w.drew) late fuel listed.toArray a' w') fuel h1 (fun _ _ _ _ _ h => h) π _ a w.drew ?_ h2 (Keeps.refl _ _ _) (fun a' h' => by rw [hend]; exact h') ?_
  ·intro j o _ hj
   rw [Array.getD_eq_getD_getElem?, Array.getElem?_replicate] at hj
   split at hj <;> simp at hj
  ·exact h E w.drew _ (fun a' w' st' E' q1 q2 q3 => q3.2 E w.drew _ (fun a2 w2 st2 E2 r1 r2 r3 => ⟨st2, E2, hev.trans r1, r2, r3⟩) E' w' a' q1 q2 fun _ n hn => ((xi hs.drew q1 q2 q3.1) n hn).1) a hs.drew
 rw [h4] at key
 refine il (Q := jk fun a' w' => n3 E w Q .normal a' w') ?_ (uas hm h0 (vo _ _ _ _ key))
 intro e a' w' hq
 cases e with
 | normal => exact hq
 | _ => exact hq.elim
end
/-- Four objects that are changed. -/
theorem ubn {g H : Nat → Option GObj} {a b c d : Nat} {oa ob oc od : GObj} (ha : H a = some oa) (hb : H b = some ob) (hc : H c = some oc) (hd : H d = some od) (h : ∀ n o, n ≠ a → n ≠ b → n ≠ c → n ≠ d → g n = some o → H n = some o) :
  ∀ n o, ak (ak (ak (ak g a oa) b ob) c oc) d od n = some o → H n = some o := by
 intro n o hn
 by_cases e1 : n = d
 ·subst e1; rw [jt] at hn; rw [hd]; exact hn
 ·rw [cy e1] at hn
  by_cases e2 : n = c
  ·subst e2; rw [jt] at hn; rw [hc]; exact hn
  ·rw [cy e2] at hn
   by_cases e3 : n = b
   ·subst e3; rw [jt] at hn; rw [hb]; exact hn
   ·rw [cy e3] at hn
    by_cases e4 : n = a
    ·subst e4; rw [jt] at hn; rw [ha]; exact hn
    ·rw [cy e4] at hn
     exact h n o e4 e3 e2 e1 hn
end Go.AB
namespace Go.AB
open Go Go.RowKit
section
variable {P : Program} {ol : List Oper} {K : St → Prop} {D : List Nat} {late : Nat → Bool}
theorem uo2 (I : List Bool → St → Prop) (stop : List Bool → Bool) (hf : ux ol = true) (hl : ∀ l st, I l st → l.length = ol.length) (hall : ∀ l st, I l st → (∀ i, i < ol.length → l[i]? = some true) → stop l = true)
  (hs : ∀ l st i o, I l st → stop l = false → ol[i]? = some o → l[i]? = some false → (∀ j ∈ m5 o, l[j]? = some true) → et ol.toArray st o = some true ∧ EStep P o st fun st' => om D st st' ∧ I (l.set i true) st')
  (he : ∀ l st, I l st → stop l = true → li P ol K D late false (n1 l) l st) : ∀ (fuel : Nat) (l : List Bool) (st : St), I l st → n1 l = fuel → li P ol K D late false fuel l st := by
 intro fuel
 induction fuel with
 | zero =>
  intro l st hI h0
  have hz : ∀ i, i < ol.length → l[i]? = some true := fun i hi => by
   have e := List.getElem?_eq_getElem (l := l) (i := i) (by rw [hl l st hI]; exact hi)
   cases hb : l[i]'(by rw [hl l st hI]; exact hi) with
   | true => rw [e, hb]
   | false => exact absurd (by rw [e, hb]) (udc h0 i)
  have := he l st hI (hall l st hI hz)
  rwa [h0] at this
 | succ fuel ih =>
  intro l st hI h0
  cases hst : stop l with
  | true =>
   have := he l st hI hst
   rwa [h0] at this
  | false =>
   cases h : Region.ready .any ol.toArray l.toArray with
   | nil => rw [hall l st hI (y7 hf (hl l st hI) h)] at hst; cases hst
   | cons i is =>
    refine rj (i :: is) (by rw [h]; exact beq_self_eq_true _) (by simp) ?_
    have key : ∀ js : List Nat, (∀ j ∈ js, j ∈ Region.ready .any ol.toArray l.toArray) → s8 P ol K D late false fuel l st js := by
     intro js
     induction js with
     | nil => intro _; trivial
     | cons j js ihj =>
      intro hjs
      refine ⟨?_, ihj fun k hk => hjs k (List.mem_cons_of_mem _ hk)⟩
      obtain ⟨o, ho, h2, h3⟩ := y8 (hjs j (List.mem_cons_self ..)) (hl l st hI)
      have hn : n1 (l.set j true) = fuel := by have := w5 h2; omega
      obtain ⟨hg, hE⟩ := hs l st j o hI hst ho h2 h3
      exact ⟨o, ho, hg, .inl ⟨rfl, hE.mono fun st' h' => ⟨h'.1, ih _ _ h'.2 hn⟩⟩⟩
    exact key (i :: is) fun j hj => by rw [h]; exact hj
/-- A state whose slots stand in another order. -/
theorem uo1 {b : Bool} {fuel : Nat} {listed : List Bool} {st st' : St} (hn : st.n = st'.n) (hd : st.df = st'.df) (hA : ∀ i, bn st.l st.r i = bn st'.l st'.r i) (hG : st.G = st'.G) (hx : st.nx = st'.nx) (h : li P ol K D late b fuel listed st') : li P ol K D late b fuel listed st := by
 intro E0 w0 Q hQ E1 w1 a hev hs hb
 refine h E0 w0 Q hQ E1 w1 a hev ⟨hd ▸ hs.d, hn ▸ hs.sz, fun i v hv => ?_, ?_⟩ hb
 ·have := hs.t i v hv
  rwa [hA] at this
 ·have := hs.g
  rwa [hG, hx] at this
end
theorem ro {st st' : St} {n : Nat} {o : GObj} (h1 : st.G n = some o) (h2 : st'.G n = some o) : om [n] st st' := ub1 h1 h2 rfl ub0
/-- whether an operation waits for another one -/
def qe (ol : List Oper) (i j : Nat) : Bool := ((ol[i]?).map fun o => (m5 o).contains j).getD false
theorem sk {ol : List Oper} {i j : Nat} {o : Oper} (h : qe ol i j = true) (ho : ol[i]? = some o) : j ∈ m5 o := by
 unfold qe at h
 rw [ho] at h
 simpa using h
/-- the slots, when so much came up: builds and appends of three lists -/
def adS (A0 : Nat → C) (c8 c9 c15 c16 c22 c23 : C) (b8 b9 b15 b16 b22 b23 : Bool) (i : Nat) : C :=
 bif b8 && Nat.beq 109 i then c8 else bif b9 && Nat.beq 110 i then c9 else bif b15 && Nat.beq 116 i then c15 else bif b16 && Nat.beq 117 i then c16 else bif b22 && Nat.beq 123 i then c22 else bif b23 && Nat.beq 124 i then c23 else A0 i
def adG (G0 G1 G2 G3 : Nat → Option GObj) (b9 b16 b23 : Bool) : Nat → Option GObj := bif b23 then G3 else bif b16 then G2 else bif b9 then G1 else G0
structure AdI (A0 : Nat → C) (c8 c9 c15 c16 c22 c23 : C) (G0 G1 G2 G3 : Nat → Option GObj) (nn df nx : Nat) (b8 b9 b15 b16 b22 b23 : Bool) (st : St) : Prop where
 n : st.n = nn
 df : st.df = df
 nx : st.nx = nx
 A : ∀ i, bn st.l st.r i = adS A0 c8 c9 c15 c16 c22 c23 b8 b9 b15 b16 b22 b23 i
 G : st.G = adG G0 G1 G2 G3 b9 b16 b23
 e9 : b9 = true → b8 = true
 e16 : b16 = true → b15 = true ∧ b9 = true
 e23 : b23 = true → b22 = true ∧ b16 = true
theorem ki {a b i : Nat} (h : Nat.beq a i = true) (hab : Nat.beq a b = false) : Nat.beq b i = false := by
 have := Nat.eq_of_beq_eq_true h
 subst this
 cases e : Nat.beq b a
 ·rfl
 ·have := Nat.eq_of_beq_eq_true e
  subst this
  rw [Nat.beq_refl] at hab; cases hab
end Go.AB
