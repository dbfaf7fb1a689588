/-
  What the walks through the program rest on: values, states, steps, calls (PaFlow, PbData, PcWorst, PdPlain, PeSets, PfPlain, PgSides, PhApart, PiWhy, PjWhy, PsExamples, PpAdd, PlTruth, PqRest, AbTwin, AbCut, RaStd, OpenE, AbRem, AbBits, QaRef, QbRef, QcRef, RbSides, QdRef, QeRef, KxBefore, QfRef, QgRef, QhRef, QiRef, QjRef, QkRef, PmMore, QlPlain, AbZero, AbGrow, AbCutN, QmRef, RhProves, AbInv, AbMixD, AbInvD).
-/
import Derived.Lib.Hide
import Derived.Test.YtbbdginipiljdaaDoorPartB
import Derived.Shelf.SlicesE.DeleteFunc
import Derived.Deep.Slices
import Derived.Lib.SmallJoins
import Derived.Carry
import Derived.ProofKit
import Derived.OpenShut
namespace Go.AB
/-- a sum -/
def sm : Nat → (Nat → Int) → Int
 | 0, _ => 0
 | n + 1, g => sm n g + g n
theorem qy : ∀ {n : Nat} {g h : Nat → Int}, (∀ i, i < n → g i ≤ h i) → sm n g ≤ sm n h
 | 0, _, _, _ => Int.le_refl _
 | n + 1, g, h, H => by
  have h1 := qy (n := n) fun i hi => H i (by omega)
  have h2 := H n (by omega)
  simp only [sm]; omega
theorem n9 : ∀ {n : Nat} {g h : Nat → Int}, (∀ i, i < n → g i = h i) → sm n g = sm n h
 | 0, _, _, _ => rfl
 | n + 1, g, h, H => by
  have h1 := n9 (n := n) fun i hi => H i (by omega)
  have h2 := H n (by omega)
  simp only [sm]; omega
theorem qz : ∀ (n : Nat) (g h : Nat → Int), sm n (fun i => g i + h i) = sm n g + sm n h
 | 0, _, _ => rfl
 | n + 1, g, h => by have := qz n g h; simp only [sm]; omega
theorem ta : ∀ (n : Nat) (g h : Nat → Int), sm n (fun i => g i - h i) = sm n g - sm n h
 | 0, _, _ => rfl
 | n + 1, g, h => by have := ta n g h; simp only [sm]; omega
theorem vm : ∀ n : Nat, sm n (fun _ => 0) = 0
 | 0 => rfl
 | n + 1 => by have := vm n; simp only [sm]; omega
theorem uhu {n : Nat} {g : Nat → Int} (H : ∀ i, i < n → 0 ≤ g i) : 0 ≤ sm n g := by
 have := qy (g := fun _ => 0) H
 rwa [vm] at this
theorem td : ∀ {n k : Nat} (_ : k < n) (v : Int), sm n (fun i => bif decide (i = k) then v else 0) = v
 | 0, _, h, _ => absurd h (Nat.not_lt_zero _)
 | n + 1, k, h, v => by
  simp only [sm]
  by_cases e : n = k
  ·subst e
   rw [n9 (h := fun _ => 0) (fun i hi => by rw [decide_eq_false (by omega)]; rfl), vm, decide_eq_true rfl]
   simp
  ·rw [td (n := n) (by omega) v, decide_eq_false e]
   simp
/-- pages, each with a first and a second reader, or one of them, or none -/
structure Net where
 nF : Nat
 nr : Nat
 np : Nat
 fr : Nat → Option Nat
 sc : Nat → Option Nat
structure Net.Ok (N : Net) : Prop where
 le : N.nF ≤ N.nr
 fr : ∀ j i, N.fr j = some i → i < N.nF
 sc : ∀ j i, N.sc j = some i → N.nF ≤ i ∧ i < N.nr
def ob (S : Nat → Bool) : Option Nat → Bool
 | none => false
 | some i => S i
def Net.hit (N : Net) (S : Nat → Bool) (j : Nat) : Bool := ob S (N.fr j) || ob S (N.sc j)
/-- who reads a page -/
def Net.by (N : Net) (j i : Nat) : Bool := decide (N.fr j = some i) || decide (N.sc j = some i)
/-- what a set of readers proves -/
def Net.f (N : Net) (R C : Nat → Int) (S : Nat → Bool) : Int := sm N.nr (fun i => bif S i then R i else 0) + sm N.np (fun j => bif N.hit S j then 0 else C j)
section
variable {N : Net} {R C : Nat → Int}
theorem Net.Ok.by_lt (h : N.Ok) {j i : Nat} (hb : N.by j i = true) : i < N.nr := by
 simp only [Net.by, Bool.or_eq_true, decide_eq_true_eq] at hb
 rcases hb with e | e
 ·have := h.fr j i e; have := h.le; omega
 ·exact (h.sc j i e).2
theorem Net.hit_iff {S : Nat → Bool} {j : Nat} : N.hit S j = true ↔ ∃ i, N.by j i = true ∧ S i = true := by
 unfold Net.hit Net.by
 constructor
 ·intro h
  rw [Bool.or_eq_true] at h
  rcases h with h | h
  ·cases e : N.fr j with
   | none => rw [e] at h; cases h
   | some i => rw [e] at h; exact ⟨i, by simp, h⟩
  ·cases e : N.sc j with
   | none => rw [e] at h; cases h
   | some i => rw [e] at h; exact ⟨i, by simp, h⟩
 ·rintro ⟨i, h1, h2⟩
  simp only [Bool.or_eq_true, decide_eq_true_eq] at h1 ⊢
  rcases h1 with e | e
  ·rw [e]; exact .inl h2
  ·rw [e]; exact .inr h2
theorem Net.f_congr (hN : N.Ok) {S S' : Nat → Bool} (h : ∀ i, i < N.nr → S i = S' i) : N.f R C S = N.f R C S' := by
 have h2 : ∀ j, N.hit S j = N.hit S' j := fun j => by
  rw [Bool.eq_iff_iff, Net.hit_iff, Net.hit_iff]
  exact ⟨fun ⟨i, q1, q2⟩ => ⟨i, q1, (h i (hN.by_lt q1)) ▸ q2⟩, fun ⟨i, q1, q2⟩ => ⟨i, q1, (h i (hN.by_lt q1)).symm ▸ q2⟩⟩
 have e1 : sm N.nr (fun i => bif S i then R i else 0) = sm N.nr (fun i => bif S' i then R i else 0) := n9 fun i hi => by rw [h i hi]
 have e2 : sm N.np (fun j => bif N.hit S j then 0 else C j) = sm N.np (fun j => bif N.hit S' j then 0 else C j) := n9 fun j _ => by rw [h2 j]
 unfold Net.f
 rw [e1, e2]
/-- two sets of readers, crossed -/
def ms (nF : Nat) (S T : Nat → Bool) (i : Nat) : Bool := bif decide (i < nF) then S i || T i else S i && T i
def mr (nF : Nat) (S T : Nat → Bool) (i : Nat) : Bool := bif decide (i < nF) then S i && T i else S i || T i
theorem Net.cross (hN : N.Ok) (hC : ∀ j, j < N.np → 0 ≤ C j) (S T : Nat → Bool) : N.f R C (ms N.nF S T) + N.f R C (mr N.nF S T) ≤ N.f R C S + N.f R C T := by
 have h1 : sm N.nr (fun i => bif ms N.nF S T i then R i else 0) + sm N.nr (fun i => bif mr N.nF S T i then R i else 0) = sm N.nr (fun i => bif S i then R i else 0) + sm N.nr (fun i => bif T i then R i else 0) := by
  rw [← qz, ← qz]
  refine n9 fun i _ => ?_
  unfold ms mr
  cases decide (i < N.nF) <;> cases S i <;> cases T i <;> simp
 have h2 : sm N.np (fun j => bif N.hit (ms N.nF S T) j then 0 else C j) + sm N.np (fun j => bif N.hit (mr N.nF S T) j then 0 else C j) ≤ sm N.np (fun j => bif N.hit S j then 0 else C j) + sm N.np (fun j => bif N.hit T j then 0 else C j) := by
  rw [← qz, ← qz]
  refine qy fun j hj => ?_
  have hc := hC j hj
  have e1 : ∀ U V : Nat → Bool, ob (ms N.nF U V) (N.fr j) = (ob U (N.fr j) || ob V (N.fr j)) := fun U V => by
   cases e : N.fr j with
   | none => rfl
   | some i => simp only [ob, ms, decide_eq_true (hN.fr j i e), cond_true]
  have e2 : ∀ U V : Nat → Bool, ob (mr N.nF U V) (N.fr j) = (ob U (N.fr j) && ob V (N.fr j)) := fun U V => by
   cases e : N.fr j with
   | none => rfl
   | some i => simp only [ob, mr, decide_eq_true (hN.fr j i e), cond_true]
  have e3 : ∀ U V : Nat → Bool, ob (ms N.nF U V) (N.sc j) = (ob U (N.sc j) && ob V (N.sc j)) := fun U V => by
   cases e : N.sc j with
   | none => rfl
   | some i => have := hN.sc j i e; simp only [ob, ms, decide_eq_false (show ¬ i < N.nF by omega), cond_false]
  have e4 : ∀ U V : Nat → Bool, ob (mr N.nF U V) (N.sc j) = (ob U (N.sc j) || ob V (N.sc j)) := fun U V => by
   cases e : N.sc j with
   | none => rfl
   | some i => have := hN.sc j i e; simp only [ob, mr, decide_eq_false (show ¬ i < N.nF by omega), cond_false]
  simp only [Net.hit, e1, e2, e3, e4]
  cases ob S (N.fr j) <;> cases ob T (N.fr j) <;> cases ob S (N.sc j) <;> cases ob T (N.sc j) <;> simp <;> omega
 unfold Net.f
 omega
/-- so much less for the readers of a page, and nothing more on it -/
def Net.lessR (N : Net) (R : Nat → Int) (j : Nat) (n : Int) (i : Nat) : Int := bif N.by j i then R i - n else R i
def ei (C : Nat → Int) (j k : Nat) : Int := bif decide (k = j) then 0 else C k
def cnt (S : Nat → Bool) (o : Option Nat) (n : Int) : Int := bif ob S o then n else 0
theorem Net.f_less (hN : N.Ok) {j : Nat} (hj : j < N.np) (n : Int) (S : Nat → Bool) : N.f (N.lessR R j n) (ei C j) S = N.f R C S - cnt S (N.fr j) n - cnt S (N.sc j) n - (bif N.hit S j then 0 else C j) := by
 have h1 : sm N.np (fun k => bif N.hit S k then 0 else ei C j k) = sm N.np (fun k => bif N.hit S k then 0 else C k) - (bif N.hit S j then 0 else C j) := by
  have := td hj (bif N.hit S j then 0 else C j)
  rw [← this, ← ta]
  refine n9 fun k _ => ?_
  by_cases e : k = j
  ·subst e; simp [ei]
  ·simp [ei, e]
 have h2 : ∀ o : Option Nat, (∀ i, o = some i → i < N.nr) → sm N.nr (fun i => bif decide (o = some i) then (bif S i then n else 0) else 0) = cnt S o n := fun o ho => by
  cases o with
  | none => simp only [cnt, ob, cond_false]; rw [n9 (h := fun _ => 0) (fun i _ => by simp), vm]
  | some k =>
   have := td (ho k rfl) (bif S k then n else 0)
   rw [n9 (h := fun i => bif decide (i = k) then (bif S k then n else 0) else 0)]
   ·exact this
   ·intro i _
    by_cases e : i = k
    ·subst e; simp
    ·simp [e, Ne.symm e]
 have h3 : sm N.nr (fun i => bif S i then N.lessR R j n i else 0) = sm N.nr (fun i => bif S i then R i else 0) - cnt S (N.fr j) n - cnt S (N.sc j) n := by
  rw [← h2 (N.fr j) (fun i e => by have := hN.fr j i e; have := hN.le; omega), ← h2 (N.sc j) (fun i e => (hN.sc j i e).2), ← ta, ← ta]
  refine n9 fun i _ => ?_
  unfold Net.lessR Net.by
  have hx : ¬ (N.fr j = some i ∧ N.sc j = some i) := fun ⟨q1, q2⟩ => by have := hN.fr j i q1; have := (hN.sc j i q2).1; omega
  by_cases q1 : N.fr j = some i
  ·have q2 : ¬ N.sc j = some i := fun q2 => hx ⟨q1, q2⟩
   cases S i <;> simp [q1, q2]
  ·by_cases q2 : N.sc j = some i
   ·cases S i <;> simp [q1, q2]
   ·cases S i <;> simp [q1, q2]
 unfold Net.f
 rw [h1, h3]
 omega
/-- the least of some numbers, as it is looked for -/
def mb (g : Nat → Int) : Nat → Int
 | 0 => g 0
 | k + 1 => min (mb g k) (g k)
theorem uda {g : Nat → Int} : ∀ {k s : Nat}, s < k ∨ s = 0 → mb g k ≤ g s
 | 0, s, h => by
  obtain rfl : s = 0 := by omega
  exact Int.le_refl _
 | k + 1, s, h => by
  by_cases e : s = k
  ·subst e; exact Int.min_le_right _ _
  ·have := uda (g := g) (k := k) (s := s) (by omega)
   exact Int.le_trans (Int.min_le_left _ _) this
theorem zi {g : Nat → Int} : ∀ k : Nat, ∃ s, (s < k ∨ s = 0) ∧ mb g k = g s
 | 0 => ⟨0, .inr rfl, rfl⟩
 | k + 1 => by
  obtain ⟨s, h1, h2⟩ := zi (g := g) k
  by_cases e : mb g k ≤ g k
  ·exact ⟨s, by omega, by rw [mb, Int.min_eq_left e, h2]⟩
  ·exact ⟨k, by omega, by rw [mb, Int.min_eq_right (by omega)]⟩
/-- a set as a number -/
def py (S : Nat → Bool) : Nat → Nat
 | 0 => 0
 | n + 1 => py S n ||| (bif S n then 2 ^ n else 0)
theorem uff (S : Nat → Bool) : ∀ n, py S n < 2 ^ n
 | 0 => by simp [py]
 | n + 1 => by
  have h := uff S n
  have h2 : 2 ^ n < 2 ^ (n + 1) := Nat.pow_lt_pow_right (by omega) (by omega)
  unfold py
  refine Nat.or_lt_two_pow (by omega) ?_
  cases S n
  ·exact Nat.two_pow_pos _
  ·exact h2
theorem ufg (S : Nat → Bool) : ∀ n i, (py S n).testBit i = (decide (i < n) && S i)
 | 0, i => by simp [py]
 | n + 1, i => by
  have h := ufg S n i
  unfold py
  rw [Nat.testBit_or, h]
  by_cases e : i = n
  ·subst e
   cases hS : S i <;> simp
  ·have e2 : decide (i < n + 1) = decide (i < n) := by rw [decide_eq_decide]; omega
   rw [e2]
   cases hS : S n
   ·simp
   ·simp only [cond_true, Nat.testBit_two_pow]
    rw [decide_eq_false (Ne.symm e), Bool.or_false]
def Net.most (N : Net) (R C : Nat → Int) : Int := mb (fun s => N.f R C fun i => s.testBit i) (2 ^ N.nr)
theorem Net.most_le (hN : N.Ok) (S : Nat → Bool) : N.most R C ≤ N.f R C S := by
 have h := uda (g := fun s => N.f R C fun i => s.testBit i) (k := 2 ^ N.nr) (s := py S N.nr) (.inl (uff S _))
 refine Int.le_trans h (Int.le_of_eq (Net.f_congr hN fun i hi => ?_))
 rw [ufg, decide_eq_true hi, Bool.true_and]
theorem Net.most_get (N : Net) (R C : Nat → Int) : ∃ S : Nat → Bool, N.most R C = N.f R C S := by
 obtain ⟨s, _, h⟩ := zi (g := fun s => N.f R C fun i => s.testBit i) (2 ^ N.nr)
 exact ⟨fun i => s.testBit i, h⟩
def ov (n : Int) (R : Nat → Int) : Option Nat → Int
 | none => n
 | some i => min n (R i)
/-- the most on one page -/
def Net.alone (N : Net) (R C : Nat → Int) (j : Nat) : Int := ov (ov (C j) R (N.fr j)) R (N.sc j)
theorem uc9 {n m : Int} {o : Option Nat} : m ≤ ov n R o ↔ m ≤ n ∧ ∀ i, o = some i → m ≤ R i := by
 cases o with
 | none => simp [ov]
 | some k => simp only [ov, Int.le_min, Option.some.injEq, forall_eq']
theorem Net.le_alone {j : Nat} {m : Int} : m ≤ N.alone R C j ↔ m ≤ C j ∧ ∀ i, N.by j i = true → m ≤ R i := by
 unfold Net.alone Net.by
 rw [uc9, uc9]
 simp only [Bool.or_eq_true, decide_eq_true_eq]
 exact ⟨fun ⟨⟨h1, h2⟩, h3⟩ => ⟨h1, fun i hi => hi.elim (h2 i) (h3 i)⟩, fun ⟨h1, h2⟩ => ⟨⟨h1, fun i hi => h2 i (.inl hi)⟩, fun i hi => h2 i (.inr hi)⟩⟩
/-- what remains, and so much less of it -/
theorem Net.less_le (hN : N.Ok) {j : Nat} (hj : j < N.np) {n : Int} (h0 : 0 ≤ n) (hn : n ≤ C j) : n + N.most (N.lessR R j n) (ei C j) ≤ N.most R C := by
 obtain ⟨S, hS⟩ := N.most_get R C
 have h1 := Net.most_le (R := N.lessR R j n) (C := ei C j) hN S
 rw [Net.f_less hN hj] at h1
 rw [hS]
 cases e : N.hit S j
 ·rw [e] at h1
  have e2 := e
  unfold Net.hit at e2
  rw [Bool.or_eq_false_iff] at e2
  simp only [cnt, e2.1, e2.2, cond_false] at h1
  omega
 ·rw [e] at h1
  unfold Net.hit at e
  rw [Bool.or_eq_true] at e
  unfold cnt at h1
  rcases e with q | q
  ·rw [q] at h1
   cases e2 : ob S (N.sc j) <;> rw [e2] at h1 <;> simp only [cond_true, cond_false] at h1 <;> omega
  ·rw [q] at h1
   cases e2 : ob S (N.fr j) <;> rw [e2] at h1 <;> simp only [cond_true, cond_false] at h1 <;> omega
/-- of each page there is a worst number of errors -/
theorem Net.greedy (hN : N.Ok) (hR : ∀ i, i < N.nr → 0 ≤ R i) (hC : ∀ j, j < N.np → 0 ≤ C j) {j : Nat} (hj : j < N.np) : ∃ n : Int, 0 ≤ n ∧ n ≤ N.alone R C j ∧ N.most R C ≤ n + N.most (N.lessR R j n) (ei C j) := by
 -- the largest number that every set allows
 have hcj := hC j hj
 have hal : 0 ≤ N.alone R C j := Net.le_alone.2 ⟨hcj, fun i hi => hR i (hN.by_lt hi)⟩
 have key : ∀ n : Int, 0 ≤ n → n ≤ N.alone R C j → (∀ S, ob S (N.fr j) = true → ob S (N.sc j) = true → N.most R C ≤ N.f R C S - n) → (n = N.alone R C j ∨ ∃ S, ob S (N.fr j) = true ∧ ob S (N.sc j) = true ∧ N.f R C S - n = N.most R C) → N.most R C ≤ n + N.most (N.lessR R j n) (ei C j) := by
  intro n h0 h1 h2 h3
  obtain ⟨S, hS⟩ := N.most_get (N.lessR R j n) (ei C j)
  rw [hS, Net.f_less hN hj]
  have hm := Net.most_le (R := R) (C := C) hN S
  cases e1 : ob S (N.fr j) <;> cases e2 : ob S (N.sc j)
  ·have e : N.hit S j = false := by simp [Net.hit, e1, e2]
   simp only [cnt, e1, e2, e, cond_false]
   -- no reader of the page is in the set
   rcases h3 with h3 | ⟨T, t1, t2, t3⟩
   ·-- as1 much as1 can be: the page itself, or a reader
    by_cases hc : n = C j
    ·omega
    ·have h4 := (Net.le_alone.1 h1).1
     obtain ⟨i, hi, hri⟩ : ∃ i, N.by j i = true ∧ R i = n := by
      refine Classical.byContradiction fun hno => ?_
      have : n + 1 ≤ N.alone R C j := Net.le_alone.2 ⟨by omega, fun i hi => by
       have q1 := (Net.le_alone.1 h1).2 i hi
       have q2 : R i ≠ n := fun q => hno ⟨i, hi, q⟩
       omega⟩
      omega
     -- the set with that reader
     have h5 := Net.most_le (R := R) (C := C) hN (fun k => S k || decide (k = i))
     have h6 : N.f R C (fun k => S k || decide (k = i)) ≤ N.f R C S + R i - C j := by
      have g1 : sm N.nr (fun k => bif (S k || decide (k = i)) then R k else 0) ≤ sm N.nr (fun k => bif S k then R k else 0) + R i := by
       have := td (hN.by_lt hi) (R i)
       rw [← this, ← qz]
       refine qy fun k hk => ?_
       have := hR k hk
       by_cases q : k = i
       ·subst q; cases S k <;> simp <;> omega
       ·cases S k <;> simp [q]
      have g2 : sm N.np (fun k => bif N.hit (fun k => S k || decide (k = i)) k then 0 else C k) ≤ sm N.np (fun k => bif N.hit S k then 0 else C k) - C j := by
       have := td hj (C j)
       rw [← this, ← ta]
       refine qy fun k hk => ?_
       have hck := hC k hk
       have mono : N.hit S k = true → N.hit (fun k => S k || decide (k = i)) k = true := fun q => by
        obtain ⟨x, x1, x2⟩ := Net.hit_iff.1 q
        exact Net.hit_iff.2 ⟨x, x1, by simp [x2]⟩
       by_cases q : k = j
       ·subst q
        rw [show N.hit (fun k => S k || decide (k = i)) k = true from Net.hit_iff.2 ⟨i, hi, by simp⟩, e]
        simp
       ·rw [decide_eq_false q]
        cases q1 : N.hit S k
        ·cases N.hit (fun k => S k || decide (k = i)) k <;> simp <;> omega
        ·rw [mono q1]; simp
      unfold Net.f
      dsimp only
      omega
     omega
   ·-- crossed with a set that has both
    have hx := Net.cross (R := R) (C := ei C j) hN (fun k hk => by unfold ei; cases decide (k = j) <;> simp; exact hC k hk) S T
    have hsub : ∀ U : Nat → Bool, N.f R (ei C j) U = N.f R C U - (bif N.hit U j then 0 else C j) := fun U => by
     have := Net.f_less (R := R) (C := C) hN hj 0 U
     have e0 : N.lessR R j 0 = R := by funext i; unfold Net.lessR; cases N.by j i <;> simp
     rw [e0] at this
     rw [this]
     unfold cnt
     cases ob U (N.fr j) <;> cases ob U (N.sc j) <;> simp
    rw [hsub, hsub, hsub, hsub, e, show N.hit T j = true by simp [Net.hit, t1]] at hx
    obtain ⟨a, ha⟩ : ∃ a, N.fr j = some a := by cases q : N.fr j with
     | none => rw [q] at t1; cases t1
     | some a => exact ⟨a, rfl⟩
    obtain ⟨b, hb⟩ : ∃ b, N.sc j = some b := by cases q : N.sc j with
     | none => rw [q] at t2; cases t2
     | some b => exact ⟨b, rfl⟩
    rw [ha] at t1
    rw [hb] at t2
    have hA : N.hit (ms N.nF S T) j = true := by
     simp only [Net.hit, ha, ob, ms, decide_eq_true (hN.fr j a ha), cond_true]
     rw [show T a = true from t1]; simp
    have hB : N.hit (mr N.nF S T) j = true := by
     have := hN.sc j b hb
     simp only [Net.hit, hb, ob, mr, decide_eq_false (show ¬ b < N.nF by omega), cond_false]
     rw [show T b = true from t2]; simp
    rw [hA, hB] at hx
    simp only [cond_true, cond_false] at hx
    have q1 := Net.most_le (R := R) (C := C) hN (ms N.nF S T)
    have q2 := Net.most_le (R := R) (C := C) hN (mr N.nF S T)
    omega
  ·have e : N.hit S j = true := by simp [Net.hit, e2]
   simp only [cnt, e1, e2, e, cond_false, cond_true]
   omega
  ·have e : N.hit S j = true := by simp [Net.hit, e1]
   simp only [cnt, e1, e2, e, cond_false, cond_true]
   omega
  ·have e : N.hit S j = true := by simp [Net.hit, e1]
   simp only [cnt, e1, e2, e, cond_true]
   have := h2 S e1 e2
   omega
 by_cases hb : ∀ S, ob S (N.fr j) = true → ob S (N.sc j) = true → N.most R C ≤ N.f R C S - N.alone R C j
 ·exact ⟨_, hal, Int.le_refl _, key _ hal (Int.le_refl _) hb (.inl rfl)⟩
 ·-- the ru of those that have both
  have : ∃ m : Int, (∃ S, ob S (N.fr j) = true ∧ ob S (N.sc j) = true ∧ N.f R C S = m) ∧ ∀ S, ob S (N.fr j) = true → ob S (N.sc j) = true → m ≤ N.f R C S := by
   obtain ⟨S0, s1, s2⟩ : ∃ S, ob S (N.fr j) = true ∧ ob S (N.sc j) = true := by
    refine Classical.byContradiction fun hno => hb fun S h1 h2 => absurd ⟨S, h1, h2⟩ hno
   have hlow : ∀ S, ob S (N.fr j) = true → ob S (N.sc j) = true → N.most R C ≤ N.f R C S := fun S _ _ => Net.most_le hN S
   generalize hd : (N.f R C S0 - N.most R C).toNat = d
   induction d using Nat.strongRecOn generalizing S0 with
   | _ d ih =>
    by_cases hmin : ∀ S, ob S (N.fr j) = true → ob S (N.sc j) = true → N.f R C S0 ≤ N.f R C S
    ·exact ⟨_, ⟨S0, s1, s2, rfl⟩, hmin⟩
    ·obtain ⟨S1, hS1⟩ := Classical.not_forall.1 hmin
     obtain ⟨t1, hS2⟩ := Classical.not_imp.1 hS1
     obtain ⟨t2, hS3⟩ := Classical.not_imp.1 hS2
     have hl1 := hlow S1 t1 t2
     have hl0 := hlow S0 s1 s2
     exact ih _ (by omega) S1 t1 t2 rfl
  obtain ⟨m, ⟨S, q1, q2, q3⟩, q4⟩ := this
  have hm := Net.most_le (R := R) (C := C) hN S
  have hlt : m - N.most R C < N.alone R C j := by
   refine Classical.byContradiction fun hno => hb fun T t1 t2 => ?_
   have := q4 T t1 t2
   omega
  exact ⟨m - N.most R C, by omega, by omega, key _ (by omega) (by omega) (fun T t1 t2 => by have := q4 T t1 t2; omega) (.inr ⟨S, q1, q2, by omega⟩)⟩
end
end Go.AB
namespace Go.PB
structure bh where
 id : Int
 miss : Int
 deriving DecidableEq
structure am where
 fr : Int
 to : Int
 fst : Int
 snd : Int
 found : List PlaceD
 well : List PlaceD
 deriving DecidableEq
structure ah where
 text : ai
 firsts : List bh
 seconds : List bh
 pages : List am
 deriving DecidableEq
/-- proofs at work -/
structure ck where
 p : ah
 words : List Int
 all : List (List PlaceD)
 both : List (List PlaceD)
structure bk where
 lo : Int
 hi : Int
 deriving DecidableEq
end Go.PB
namespace Go.AB
open Go Go.RowKit
open Go.AB.Enc (cells)
open Go.PB (av ai PlaceD az bf ba bh am ah ck bk)
instance : Enc bh := ⟨fun x => [.v (.int .i64 x.id), .v (.int .i64 x.miss)], 2, fun _ => rfl, fun m x c h => by
 simp only [List.mem_cons, List.not_mem_nil, or_false] at h; rcases h with rfl | rfl <;> exact .v, fun x c h => by
 simp only [List.mem_cons, List.not_mem_nil, or_false] at h; rcases h with rfl | rfl <;> rfl⟩
instance : Enc bk := ⟨fun x => [.v (.int .i64 x.lo), .v (.int .i64 x.hi)], 2, fun _ => rfl, fun m x c h => by
 simp only [List.mem_cons, List.not_mem_nil, or_false] at h; rcases h with rfl | rfl <;> exact .v, fun x c h => by
 simp only [List.mem_cons, List.not_mem_nil, or_false] at h; rcases h with rfl | rfl <;> rfl⟩
instance : Enc am := ⟨fun x => [.v (.int .i64 x.fr), .v (.int .i64 x.to), .v (.int .i64 x.fst), .v (.int .i64 x.snd), lst x.found, lst x.well], 6, fun _ => rfl, fun m x c h => by
 simp only [List.mem_cons, List.not_mem_nil, or_false] at h
 rcases h with rfl | rfl | rfl | rfl | rfl | rfl
 ·exact .v
 ·exact .v
 ·exact .v
 ·exact .v
 ·exact bp m _
 ·exact bp m _, fun x c h => by
 simp only [List.mem_cons, List.not_mem_nil, or_false] at h; rcases h with rfl | rfl | rfl | rfl | rfl | rfl <;> rfl⟩
instance : Enc ah := ⟨fun x => [lst x.text, lst x.firsts, lst x.seconds, lst x.pages], 4, fun _ => rfl, fun m x c h => by
 simp only [List.mem_cons, List.not_mem_nil, or_false] at h
 rcases h with rfl | rfl | rfl | rfl
 ·exact bp m _
 ·exact bp m _
 ·exact bp m _
 ·exact bp m _, fun x c h => by
 simp only [List.mem_cons, List.not_mem_nil, or_false] at h; rcases h with rfl | rfl | rfl | rfl <;> rfl⟩
/-! ### Lines of a text -/
/-- the number of a chapter's first line -/
def fw (t : ai) (k : Nat) : Nat := ((t.take k).map fun c => c.lines.length).sum
theorem ua9 (t : ai) : fw t 0 = 0 := by simp [fw]
theorem s9 {t : ai} {k : Nat} {c : av} (h : t[k]? = some c) : fw t (k + 1) = fw t k + c.lines.length := by
 unfold fw
 rw [List.take_add_one, h]
 simp
def mj (t : ai) : Nat := fw t t.length
/-- the number of the line of a place -/
def qi (t : ai) (q : PlaceD) : Int := q.ln + (fw t q.ch.toNat : Int)
def gx (t : ai) (x : am) (q : PlaceD) : Bool := inB (qi t q) x.fr x.to
/-! ### Valid proofs -/
def my (a b : PlaceD) : Bool := decide (fb (cw a) (cw b) < 0)
/-- a place of a list may stand where it does -/
def jh (t : ai) (x : am) (l : List PlaceD) (i : Nat) : Bool := match l[i]? with
 | none => true
 | some q => fu t q && gx t x q && (decide (i = 0) || match l[i - 1]? with | none => true | some a => my a q)
def dq (t : ai) (x : am) (l : List PlaceD) (n : Nat) : Bool := (List.range n).all (jh t x l)
theorem gu (t : ai) (x : am) (l : List PlaceD) (n : Nat) : dq t x l (n + 1) = (dq t x l n && jh t x l n) := by
 unfold dq
 rw [List.range_succ, List.all_append]
 simp
def g8 (t : ai) (x : am) (r : Int) (l : List PlaceD) : Bool := (decide (0 ≤ r) || decide (l = [])) && dq t x l l.length
def fy (r : bh) : Bool := inB r.id 0 9999 && inB r.miss 0 90
def jf (p : ah) : Bool := decide (p.firsts.length ≤ 3) && decide (p.seconds.length ≤ 3) && (p.firsts ++ p.seconds).all fy && decide ((p.firsts ++ p.seconds).map (·.id)).Nodup
def l7 (p : ah) (last : Int) (x : am) : Bool := decide (last < x.fr) && decide (x.fr ≤ x.to) && decide (x.to < (mj p.text : Int)) && inB x.fst (-1) ((p.firsts.length : Int) - 1) && g8 p.text x x.fst x.found && inB x.snd (-1) ((p.seconds.length : Int) - 1) && g8 p.text x x.snd x.well
/-- the last line ahead of a page -/
def ib (l : List am) : Nat → Int
 | 0 => -1
 | i + 1 => match l[i]? with | some x => x.to | none => -1
def rh (p : ah) (i : Nat) : Bool := match p.pages[i]? with
 | none => true
 | some x => l7 p (ib p.pages i) x
def pg (p : ah) (n : Nat) : Bool := (List.range n).all (rh p)
theorem uca (p : ah) (n : Nat) : pg p (n + 1) = (pg p n && rh p n) := by
 unfold pg
 rw [List.range_succ, List.all_append]
 simp
def fq (p : ah) : Bool := jf p && decide (p.pages.length ≤ 8) && pg p p.pages.length
def cc (p : ah) : Int := bif dr p.text then (bif fq p then 0 else 90) else 10
/-! ### What is found on a page -/
def er (t : ai) (x : am) : List PlaceD := (gh t).filter fun q => decide (q ∈ x.found) || decide (q ∈ x.well)
def d7 (t : ai) (x : am) : List PlaceD := (gh t).filter fun q => decide (q ∈ x.found) && decide (q ∈ x.well)
def fl (t : ai) (x : am) : Nat := ((gh t).filter (gx t x)).length
/-! ### Bounds of readers -/
def fh (b : Bool) (x : am) : Int := bif b then x.snd else x.fst
def da (b : Bool) (x : am) : List PlaceD := bif b then x.well else x.found
def dp (p : ah) (b : Bool) : List bh := bif b then p.seconds else p.firsts
def ef (l : List am) (g : am → Nat) : Nat := (l.map g).sum
theorem s7 {l : List am} {k : Nat} {x : am} {g : am → Nat} (h : l[k]? = some x) : ef (l.take (k + 1)) g = ef (l.take k) g + g x := by
 unfold ef
 rw [List.take_add_one, h]
 simp
def gk (b : Bool) (i : Int) (x : am) : Nat := bif decide (fh b x = i) then (da b x).length else 0
def i7 (t : ai) (b : Bool) (i : Int) (x : am) : Nat := bif decide (fh b x = i) then (er t x).length else 0
def jg (p : ah) (b : Bool) (i : Nat) : Int := match (dp p b)[i]? with | some r => r.miss | none => 0
def nz (p : ah) (b : Bool) (i : Nat) : Int := 100 * (ef p.pages (gk b i) : Int) / (100 - jg p b i)
def mn (p : ah) (b : Bool) (i : Nat) : Int := nz p b i - (ef p.pages (i7 p.text b i) : Int)
/-! ### What may remain -/
def ce (p : ah) : Nat := p.firsts.length + p.seconds.length
def cv (p : ah) (i : Nat) : Int := bif decide (i < p.firsts.length) then mn p false i else mn p true (i - p.firsts.length)
def ut (t : ai) (x : am) : Int := (fl t x : Int) - ((er t x).length : Int)
def gj (p : ah) : Bool := (List.range (ce p)).all fun i => decide (0 ≤ cv p i)
def bv (p : ah) : Net where
 nF := p.firsts.length
 nr := ce p
 np := p.pages.length
 fr := fun j => match p.pages[j]? with | some x => (bif decide (0 ≤ x.fst) then some x.fst.toNat else none) | none => none
 sc := fun j => match p.pages[j]? with | some x => (bif decide (0 ≤ x.snd) then some (p.firsts.length + x.snd.toNat) else none) | none => none
end Go.AB
namespace Go.AB
/-- so much on a page is the most of what loses nothing -/
structure Net.Pick (N : Net) (R C : Nat → Int) (j : Nat) (n : Int) : Prop where
 nn : 0 ≤ n
 le : n ≤ N.alone R C j
 ok : N.most R C ≤ n + N.most (N.lessR R j n) (ei C j)
 max : ∀ m, n < m → m ≤ N.alone R C j → ¬ N.most R C ≤ m + N.most (N.lessR R j m) (ei C j)
section
variable {N : Net} {R C : Nat → Int}
theorem Net.Pick.uniq {j : Nat} {n m : Int} (h : N.Pick R C j n) (k : N.Pick R C j m) : n = m := by
 rcases Int.lt_trichotomy n m with q | q | q
 ·exact absurd k.ok (h.max m q k.le)
 ·exact q
 ·exact absurd h.ok (k.max n q h.le)
theorem Net.pick_ex (hN : N.Ok) (hR : ∀ i, i < N.nr → 0 ≤ R i) (hC : ∀ j, j < N.np → 0 ≤ C j) {j : Nat} (hj : j < N.np) : ∃ n, N.Pick R C j n := by
 obtain ⟨n, h1, h2, h3⟩ := Net.greedy hN hR hC hj
 generalize hd : (N.alone R C j - n).toNat = d
 induction d using Nat.strongRecOn generalizing n with
 | _ d ih =>
  by_cases hmax : ∀ m, n < m → m ≤ N.alone R C j → ¬ N.most R C ≤ m + N.most (N.lessR R j m) (ei C j)
  ·exact ⟨n, h1, h2, h3, hmax⟩
  ·obtain ⟨m, hm⟩ := Classical.not_forall.1 hmax
   obtain ⟨q1, hm⟩ := Classical.not_imp.1 hm
   obtain ⟨q2, hm⟩ := Classical.not_imp.1 hm
   exact ih _ (by omega) m (by omega) q2 (Classical.not_not.1 hm) rfl
open Classical in
noncomputable def Net.pick (N : Net) (R C : Nat → Int) (j : Nat) : Int := if h : ∃ n, N.Pick R C j n then h.choose else 0
theorem Net.pick_spec {j : Nat} (h : ∃ n, N.Pick R C j n) : N.Pick R C j (N.pick R C j) := by
 unfold Net.pick
 rw [dif_pos h]
 exact h.choose_spec
theorem Net.pick_eq {j : Nat} {n : Int} (h : N.Pick R C j n) : N.pick R C j = n := (Net.pick_spec ⟨n, h⟩).uniq h
/-- what may remain ahead of a page, by the worst truth -/
noncomputable def Net.room (N : Net) (R C : Nat → Int) : Nat → (Nat → Int) × (Nat → Int)
 | 0 => (R, C)
 | i + 1 => (N.lessR (N.room R C i).1 i (N.pick (N.room R C i).1 (N.room R C i).2 i), ei (N.room R C i).2 i)
/-- the worst truth -/
noncomputable def Net.worst (N : Net) (R C : Nat → Int) (i : Nat) : Int := N.pick (N.room R C i).1 (N.room R C i).2 i
theorem Net.room_succ (i : Nat) : N.room R C (i + 1) = (N.lessR (N.room R C i).1 i (N.worst R C i), ei (N.room R C i).2 i) := rfl
structure Net.RoomOk (N : Net) (R C : Nat → Int) (i : Nat) : Prop where
 rnn : ∀ r, r < N.nr → 0 ≤ (N.room R C i).1 r
 cnn : ∀ j, j < N.np → 0 ≤ (N.room R C i).2 j
 all : N.most (N.room R C i).1 (N.room R C i).2 = N.most R C - sm i (N.worst R C)
 caps : ∀ j, (N.room R C i).2 j = bif decide (j < i) then 0 else C j
 rds : ∀ r, (N.room R C i).1 r = R r - sm i (fun j => bif N.by j r then N.worst R C j else 0)
theorem Net.room_ok (hN : N.Ok) (hR : ∀ i, i < N.nr → 0 ≤ R i) (hC : ∀ j, j < N.np → 0 ≤ C j) : ∀ i, i ≤ N.np → N.RoomOk R C i
 | 0, _ => ⟨hR, hC, by simp [Net.room, sm], fun j => by simp [Net.room], fun r => by simp [Net.room, sm]⟩
 | i + 1, hi => by
  have h := Net.room_ok hN hR hC i (by omega)
  have hp : N.Pick (N.room R C i).1 (N.room R C i).2 i (N.worst R C i) := Net.pick_spec (Net.pick_ex hN h.rnn h.cnn (by omega))
  have hal := Net.le_alone.1 hp.le
  have hle := Net.less_le (R := (N.room R C i).1) (C := (N.room R C i).2) hN (show i < N.np by omega) hp.nn hal.1
  have hok := hp.ok
  refine ⟨fun r hr => ?_, fun j hj => ?_, ?_, fun j => ?_, fun r => ?_⟩
  ·rw [Net.room_succ]
   show 0 ≤ N.lessR _ i _ r
   unfold Net.lessR
   cases hb : N.by i r
   ·exact h.rnn r hr
   ·have := hal.2 r hb
    simp only [cond_true]; omega
  ·rw [Net.room_succ]
   show 0 ≤ ei _ i j
   unfold ei
   cases decide (j = i)
   ·exact h.cnn j hj
   ·exact Int.le_refl _
  ·rw [Net.room_succ]
   have := h.all
   simp only [sm]
   show N.most (N.lessR _ i _) (ei _ i) = _
   omega
  ·rw [Net.room_succ]
   show ei _ i j = _
   unfold ei
   rw [h.caps j]
   by_cases e : j = i
   ·subst e; simp
   ·rw [decide_eq_false e, cond_false, show decide (j < i + 1) = decide (j < i) by rw [decide_eq_decide]; omega]
  ·rw [Net.room_succ]
   show N.lessR _ i _ r = _
   unfold Net.lessR
   rw [h.rds r]
   simp only [sm]
   cases N.by i r <;> simp <;> omega
theorem Net.worst_pick (hN : N.Ok) (hR : ∀ i, i < N.nr → 0 ≤ R i) (hC : ∀ j, j < N.np → 0 ≤ C j) {i : Nat} (hi : i < N.np) : N.Pick (N.room R C i).1 (N.room R C i).2 i (N.worst R C i) := by
 have h := Net.room_ok hN hR hC i (by omega)
 exact Net.pick_spec (Net.pick_ex hN h.rnn h.cnn hi)
end
end Go.AB
namespace Go.AB
open Go Go.RowKit
open Go.AB.Enc (cells)
open Go.PB (av ai PlaceD az bf ba bh am ah ck bk)
theorem sumL_sm (g : am → Nat) : ∀ l : List am, ((ef l g : Nat) : Int) = sm l.length (fun j => match l[j]? with | some x => (g x : Int) | none => 0) := by
 intro l
 have key : ∀ k, k ≤ l.length → ((ef (l.take k) g : Nat) : Int) = sm k (fun j => match l[j]? with | some x => (g x : Int) | none => 0) := by
  intro k
  induction k with
  | zero => intro _; rfl
  | succ k ih =>
   intro hk
   have hx : l[k]? = some l[k] := List.getElem?_eq_getElem (by omega)
   rw [s7 hx]
   simp only [sm, hx]
   have := ih (by omega)
   omega
 have := key l.length (Nat.le_refl _)
 rwa [List.take_length] at this
/-! ### What valid proofs are -/
structure ey (p : ah) : Prop where
 text : dr p.text = true
 nf : p.firsts.length ≤ 3
 ns : p.seconds.length ≤ 3
 np : p.pages.length ≤ 8
 rd : ∀ r ∈ p.firsts ++ p.seconds, fy r = true
 page : ∀ (j : Nat) (x : am), p.pages[j]? = some x → l7 p (ib p.pages j) x = true
theorem ld {p : ah} (h : cc p = 0) : ey p ∧ fq p = true := by
 unfold cc at h
 cases ht : dr p.text
 ·rw [ht] at h; simp at h
 ·cases hp : fq p
  ·rw [ht, hp] at h; simp at h
  ·refine ⟨?_, rfl⟩
   unfold fq jf at hp
   simp only [Bool.and_eq_true, decide_eq_true_eq] at hp
   obtain ⟨⟨⟨⟨⟨h1, h2⟩, h3⟩, _⟩, h5⟩, h6⟩ := hp
   refine ⟨ht, h1, h2, h5, fun r hr => List.all_eq_true.1 h3 r hr, fun j x hx => ?_⟩
   have hj := (List.getElem?_eq_some_iff.1 hx).1
   have := List.all_eq_true.1 h6 j (List.mem_range.2 hj)
   unfold rh at this
   rw [hx] at this
   exact this
structure n3 (p : ah) (last : Int) (x : am) : Prop where
 fr : last < x.fr
 to : x.fr ≤ x.to
 lt : x.to < (mj p.text : Int)
 fst : -1 ≤ x.fst ∧ x.fst ≤ (p.firsts.length : Int) - 1
 snd : -1 ≤ x.snd ∧ x.snd ≤ (p.seconds.length : Int) - 1
 found : g8 p.text x x.fst x.found = true
 well : g8 p.text x x.snd x.well = true
theorem pageB_true {p : ah} {last : Int} {x : am} : l7 p last x = true ↔ n3 p last x := by
 unfold l7
 simp only [Bool.and_eq_true, decide_eq_true_eq, inB_true]
 exact ⟨fun ⟨⟨⟨⟨⟨⟨h1, h2⟩, h3⟩, h4⟩, h5⟩, h6⟩, h7⟩ => ⟨h1, h2, h3, h4, h6, h5, h7⟩, fun h => ⟨⟨⟨⟨⟨⟨h.fr, h.to⟩, h.lt⟩, h.fst⟩, h.found⟩, h.snd⟩, h.well⟩⟩
theorem mp {t : ai} {x : am} {r : Int} {l : List PlaceD} (h : g8 t x r l = true) {q : PlaceD} (hq : q ∈ l) : fu t q = true ∧ gx t x q = true := by
 unfold g8 at h
 rw [Bool.and_eq_true] at h
 obtain ⟨i, hi⟩ := List.getElem?_of_mem hq
 have := List.all_eq_true.1 h.2 i (List.mem_range.2 (List.getElem?_eq_some_iff.1 hi).1)
 unfold jh at this
 rw [hi] at this
 simp only [Bool.and_eq_true] at this
 exact this.1
theorem ul5 {t : ai} {x : am} {r : Int} {l : List PlaceD} (h : g8 t x r l = true) {i : Nat} {a q : PlaceD} (ha : l[i]? = some a) (hq : l[i + 1]? = some q) : fb (cw a) (cw q) < 0 := by
 unfold g8 at h
 rw [Bool.and_eq_true] at h
 have := List.all_eq_true.1 h.2 (i + 1) (List.mem_range.2 (List.getElem?_eq_some_iff.1 hq).1)
 unfold jh at this
 rw [hq, Nat.add_sub_cancel, ha] at this
 have h9 : (fu t q = true ∧ gx t x q = true) ∧ fb (cw a) (cw q) < 0 := by simpa [my] using this
 exact h9.2
theorem ufk {a b c : PlaceD} (h : fb (cw a) (cw b) < 0) (k : fb (cw b) (cw c) < 0) : fb (cw a) (cw c) < 0 := by
 rw [ny (by rfl)] at h k ⊢
 exact rr h k
theorem uag (a : PlaceD) : ¬ fb (cw a) (cw a) < 0 := by
 rw [ny (by rfl)]
 exact pj _
theorem uhl {l : List PlaceD} (h : ∀ (i : Nat) (a q : PlaceD), l[i]? = some a → l[i + 1]? = some q → fb (cw a) (cw q) < 0) : l.Pairwise fun a b => fb (cw a) (cw b) < 0 := by
 rw [List.pairwise_iff_getElem]
 intro i j hi hj hij
 have key : ∀ d (hd : i + 1 + d < l.length), fb (cw l[i]) (cw l[i + 1 + d]) < 0 := by
  intro d
  induction d with
  | zero => intro hd; exact h i _ _ (List.getElem?_eq_getElem hi) (List.getElem?_eq_getElem hd)
  | succ d ih =>
   intro hd
   exact ufk (ih (by omega)) (h (i + 1 + d) _ _ (List.getElem?_eq_getElem (by omega)) (List.getElem?_eq_getElem hd))
 have := key (j - (i + 1)) (by omega)
 simpa [show i + 1 + (j - (i + 1)) = j by omega] using this
theorem xc {t : ai} {x : am} {r : Int} {l : List PlaceD} (h : g8 t x r l = true) : l.Pairwise fun a b => fb (cw a) (cw b) < 0 := uhl fun _ _ _ ha hq => ul5 h ha hq
/-- lists in order, with the same places -/
theorem vk : ∀ {l m : List PlaceD}, l.Pairwise (fun a b => fb (cw a) (cw b) < 0) → m.Pairwise (fun a b => fb (cw a) (cw b) < 0) → (∀ q, q ∈ l ↔ q ∈ m) → l = m
 | [], [], _, _, _ => rfl
 | [], b :: m, _, _, h => by have := (h b).2 (List.mem_cons_self ..); cases this
 | a :: l, [], _, _, h => by have := (h a).1 (List.mem_cons_self ..); cases this
 | a :: l, b :: m, h1, h2, h => by
  rw [List.pairwise_cons] at h1 h2
  have hab : a = b := by
   have p1 := (h a).1 (List.mem_cons_self ..)
   have p2 := (h b).2 (List.mem_cons_self ..)
   rw [List.mem_cons] at p1 p2
   rcases p1 with rfl | p1
   ·rfl
   ·rcases p2 with rfl | p2
    ·rfl
    ·exact absurd (ufk (h1.1 b p2) (h2.1 a p1)) (uag a)
  subst hab
  rw [vk h1.2 h2.2 fun q => ?_]
  constructor
  ·intro hq
   have := (h q).1 (List.mem_cons_of_mem _ hq)
   rw [List.mem_cons] at this
   rcases this with rfl | this
   ·exact absurd (h1.1 q hq) (uag q)
   ·exact this
  ·intro hq
   have := (h q).2 (List.mem_cons_of_mem _ hq)
   rw [List.mem_cons] at this
   rcases this with rfl | this
   ·exact absurd (h2.1 q hq) (uag q)
   ·exact this
/-! ### Pages between readers -/
def rg (p : ah) (j : Nat) (g : am → Int) : Int := match p.pages[j]? with | some x => g x | none => 0
theorem uje {p : ah} {j : Nat} {x : am} (h : p.pages[j]? = some x) (g : am → Int) : rg p j g = g x := by unfold rg; rw [h]
def dc (p : ah) (j : Nat) : Int := rg p j (ut p.text)
theorem zd {p : ah} (h : ey p) : (bv p).Ok := by
 refine ⟨Nat.le_add_right _ _, fun j i hi => ?_, fun j i hi => ?_⟩
 ·simp only [bv] at hi ⊢
  cases hx : p.pages[j]? with
  | none => rw [hx] at hi; cases hi
  | some x =>
   rw [hx] at hi
   have hp := (pageB_true.1 (h.page j x hx)).fst
   dsimp only at hi
   by_cases q : 0 ≤ x.fst
   ·rw [decide_eq_true q, cond_true, Option.some.injEq] at hi
    omega
   ·rw [decide_eq_false q] at hi; cases hi
 ·simp only [bv, ce] at hi ⊢
  cases hx : p.pages[j]? with
  | none => rw [hx] at hi; cases hi
  | some x =>
   rw [hx] at hi
   have hp := (pageB_true.1 (h.page j x hx)).snd
   dsimp only at hi
   by_cases q : 0 ≤ x.snd
   ·rw [decide_eq_true q, cond_true, Option.some.injEq] at hi
    omega
   ·rw [decide_eq_false q] at hi; cases hi
/-- the readers of a page, as the program lists them -/
def dm (p : ah) (x : am) : List Int := (bif decide (0 ≤ x.fst) then [x.fst] else []) ++ (bif decide (0 ≤ x.snd) then [(p.firsts.length : Int) + x.snd] else [])
theorem ulu {p : ah} {j : Nat} {x : am} (hx : p.pages[j]? = some x) (S : Nat → Bool) : (bv p).hit S j = (dm p x).any fun k => S k.toNat := by
 simp only [Net.hit, bv, hx, dm, List.any_append]
 congr 1
 ·cases decide (0 ≤ x.fst) <;> simp [ob]
 ·by_cases q : 0 ≤ x.snd
  ·simp [q, ob, show ((p.firsts.length : Int) + x.snd).toNat = p.firsts.length + x.snd.toNat by omega]
  ·simp [q, ob]
theorem ulz {p : ah} {last : Int} {x : am} (h : n3 p last x) : (er p.text x).length ≤ fl p.text x := by
 unfold er fl
 rw [← List.countP_eq_length_filter, ← List.countP_eq_length_filter]
 refine List.countP_mono_left fun q _ hq => ?_
 rw [Bool.or_eq_true, decide_eq_true_eq, decide_eq_true_eq] at hq
 rcases hq with hq | hq
 ·exact (mp h.found hq).2
 ·exact (mp h.well hq).2
theorem ue8 {p : ah} (h : ey p) (j : Nat) : 0 ≤ dc p j := by
 unfold dc rg
 cases hx : p.pages[j]? with
 | none => exact Int.le_refl _
 | some x =>
  have := ulz (pageB_true.1 (h.page j x hx))
  show 0 ≤ ut p.text x
  unfold ut
  omega
end Go.AB
namespace Go.AB
open Go Go.RowKit
open Go.AB.Enc (cells)
/-- the numbers of a set -/
def wj (n s : Nat) : List Nat := (List.range n).filter fun i => s.testBit i
def e8 (n s : Nat) : List Int := (wj n s).map fun i : Nat => (i : Int)
theorem udd (n s : Nat) : e8 (n + 1) s = e8 n s ++ (bif s.testBit n then [(n : Int)] else []) := by
 unfold e8 wj
 rw [List.range_succ, List.filter_append, List.map_append]
 cases h : s.testBit n <;> simp [h]
theorem tz (n s : Nat) : (e8 n s).length ≤ n := by
 unfold e8 wj
 rw [List.length_map]
 have := List.length_filter_le (fun i => s.testBit i) (List.range n)
 rwa [List.length_range] at this
theorem membersL_mem {n s : Nat} {x : Int} : x ∈ e8 n s ↔ ∃ i : Nat, x = (i : Int) ∧ i < n ∧ s.testBit i = true := by
 unfold e8 wj
 simp only [List.mem_map, List.mem_filter, List.mem_range]
 exact ⟨fun ⟨i, ⟨h1, h2⟩, h3⟩ => ⟨i, h3.symm, h1, h2⟩, fun ⟨i, h3, h1, h2⟩ => ⟨i, ⟨h1, h2⟩, h3.symm⟩⟩
/-- the order of lists: shorter ones first, then by their numbers -/
def iw (a b : List Int) : Bool := decide (a.length < b.length) || (decide (a.length = b.length) && decide (fb a b < 0))
theorem ufl {a b : List Int} : iw a b = true ↔ a.length < b.length ∨ (a.length = b.length ∧ ltW a b) := by
 unfold iw
 rw [Bool.or_eq_true, Bool.and_eq_true, decide_eq_true_eq, decide_eq_true_eq, decide_eq_true_eq]
 constructor
 ·rintro (h | ⟨h1, h2⟩)
  ·exact .inl h
  ·exact .inr ⟨h1, (ny h1).1 h2⟩
 ·rintro (h | ⟨h1, h2⟩)
  ·exact .inl h
  ·exact .inr ⟨h1, (ny h1).2 h2⟩
theorem ufm (a : List Int) : iw a a = false := by
 rw [← Bool.not_eq_true, ufl]
 rintro (h | ⟨_, h⟩)
 ·omega
 ·exact pj a h
theorem unk {a b c : List Int} (h : iw a b = true) (k : iw b c = true) : iw a c = true := by
 rw [ufl] at *
 rcases h with h | ⟨h1, h2⟩
 ·rcases k with k | ⟨k1, _⟩
  ·exact .inl (by omega)
  ·exact .inl (by omega)
 ·rcases k with k | ⟨k1, k2⟩
  ·exact .inl (by omega)
  ·exact .inr ⟨by omega, rr h2 k2⟩
/-- what is found among the first sets -/
def fe (so : Nat → Bool) (n : Nat) : Nat → Option (List Int)
 | 0 => none
 | k + 1 => match fe so n k with
  | none => bif so k then some (e8 n k) else none
  | some b => bif so k && iw (e8 n k) b then some (e8 n k) else some b
def n1 (so : Nat → Bool) (n : Nat) : List Int := (fe so n (2 ^ n)).getD []
structure uok (so : Nat → Bool) (n k : Nat) (b : List Int) : Prop where
 get : ∃ s, s < k ∧ so s = true ∧ b = e8 n s
 min : ∀ s, s < k → so s = true → iw (e8 n s) b = false
theorem xj (so : Nat → Bool) (n : Nat) : ∀ k, (fe so n k = none ∧ ∀ s, s < k → so s = false) ∨ ∃ b, fe so n k = some b ∧ uok so n k b
 | 0 => .inl ⟨rfl, fun s h => absurd h (Nat.not_lt_zero _)⟩
 | k + 1 => by
  rcases xj so n k with ⟨h1, h2⟩ | ⟨b, h1, h2⟩
  ·simp only [fe, h1]
   cases hs : so k
   ·exact .inl ⟨rfl, fun s h => by
     by_cases e : s = k
     ·subst e; exact hs
     ·exact h2 s (by omega)⟩
   ·exact .inr ⟨_, rfl, ⟨k, by omega, hs, rfl⟩, fun s h hso => by
     by_cases e : s = k
     ·subst e; exact ufm _
     ·rw [h2 s (by omega)] at hso; cases hso⟩
  ·simp only [fe, h1]
   right
   cases hs : so k && iw (e8 n k) b
   ·refine ⟨b, rfl, ?_, fun s h hso => ?_⟩
    ·obtain ⟨s, q1, q2, q3⟩ := h2.get
     exact ⟨s, by omega, q2, q3⟩
    ·by_cases e : s = k
     ·subst e
      rw [hso, Bool.true_and] at hs
      exact hs
     ·exact h2.min s (by omega) hso
   ·rw [Bool.and_eq_true] at hs
    refine ⟨_, rfl, ⟨k, by omega, hs.1, rfl⟩, fun s h hso => ?_⟩
    by_cases e : s = k
    ·subst e; exact ufm _
    ·rw [← Bool.not_eq_true]
     intro hb
     have := unk hb hs.2
     rw [h2.min s (by omega) hso] at this
     cases this
theorem ufj (so : Nat → Bool) (n : Nat) : (n1 so n).length ≤ n := by
 unfold n1
 rcases xj so n (2 ^ n) with ⟨h, _⟩ | ⟨b, h, k⟩
 ·rw [h]; exact Nat.zero_le _
 ·rw [h]
  obtain ⟨s, _, _, rfl⟩ := k.get
  exact tz n s
theorem ufi {so : Nat → Bool} {n k : Nat} (h : fe so n k = none) : fe so n (k + 1) = bif so k then some (e8 n k) else none := by simp only [fe, h]
theorem uaf {so : Nat → Bool} {n k : Nat} {b : List Int} (h : fe so n k = some b) : fe so n (k + 1) = bif so k && iw (e8 n k) b then some (e8 n k) else some b := by simp only [fe, h]
/-! ### Lists of numbers that are looked up -/
def cr (n : Nat) (R : Nat → Int) : List Int := (List.range n).map R
theorem jm (n : Nat) (R : Nat → Int) : (cr n R).length = n := by simp [cr]
theorem m8 {n i : Nat} (R : Nat → Int) (h : i < n) : (cr n R)[i]? = some (R i) := by simp [cr, h]
theorem x9 (n : Nat) (R : Nat → Int) : cr (n + 1) R = cr n R ++ [R n] := by
 unfold cr
 rw [List.range_succ, List.map_append]; rfl
theorem yc {n i : Nat} (R : Nat → Int) (v : Int) (h : i < n) : (cr n R).set i v = cr n fun k => bif decide (k = i) then v else R k := by
 apply List.ext_getElem?
 intro k
 rw [List.getElem?_set, jm]
 by_cases hk : k < n
 ·rw [m8 (fun k => bif decide (k = i) then v else R k) hk, m8 R hk]
  by_cases e : i = k
  ·subst e; rw [if_pos rfl, if_pos h, decide_eq_true rfl]; rfl
  ·rw [if_neg e, decide_eq_false (Ne.symm e)]; rfl
 ·rw [List.getElem?_eq_none (by rw [jm]; omega)]
  rw [if_neg (by omega), List.getElem?_eq_none (by rw [jm]; omega)]
end Go.AB
namespace Go.AB
open Go Go.RowKit
open Go.AB.Enc (cells)
open Go.PB (av ai PlaceD az bf ba bh am ah ck bk)
/-! ### All places are in order -/
theorem unu (t : ai) : (gh t).Pairwise fun a b => fb (cw a) (cw b) < 0 := by
 unfold gh
 rw [List.pairwise_map, List.pairwise_iff_getElem]
 intro i j hi hj hij
 have h1 := List.getElem?_eq_getElem hi
 have h2 := List.getElem?_eq_getElem hj
 have h := ukc (uf2 h1).1 (uf2 h2).1
 rw [za h1 rfl, za h2 rfl] at h
 rw [ny (by rfl), ← h]
 omega
theorem allQ_mem {t : ai} {q : PlaceD} : q ∈ gh t ↔ fu t q = true := allP_mem
theorem xd {t : ai} (f : PlaceD → Bool) : ((gh t).filter f).Pairwise fun a b => fb (cw a) (cw b) < 0 := (unu t).filter _
/-- places in order, of a text, are those of all places that are among them -/
theorem uhs {t : ai} {l : List PlaceD} (h : l.Pairwise fun a b => fb (cw a) (cw b) < 0) (hp : ∀ q ∈ l, fu t q = true) : l = (gh t).filter fun q => decide (q ∈ l) :=
 vk h (xd _) fun q => by
  rw [List.mem_filter, decide_eq_true_eq, allQ_mem]
  exact ⟨fun h => ⟨hp q h, h⟩, fun h => h.2⟩
theorem ul6 {t : ai} {x : am} {r : Int} {l : List PlaceD} (h : g8 t x r l = true) : l = (gh t).filter fun q => decide (q ∈ l) := uhs (xc h) fun q hq => (mp h hq).1
theorem pr {t : ai} {x : am} {r : Int} {l : List PlaceD} (h : g8 t x r l = true) : l.length ≤ (gh t).length := by
 rw [ul6 h]
 exact List.length_filter_le _ _
theorem w8 (t : ai) (x : am) : (er t x).length ≤ (gh t).length := List.length_filter_le _ _
theorem ufe (t : ai) (x : am) : (d7 t x).length ≤ (gh t).length := List.length_filter_le _ _
theorem xw (t : ai) (x : am) : fl t x ≤ (gh t).length := List.length_filter_le _ _
/-! ### How great numbers are -/
theorem yd {g : am → Nat} {m : Nat} : ∀ {l : List am}, (∀ x ∈ l, g x ≤ m) → ef l g ≤ l.length * m
 | [], _ => by simp [ef]
 | x :: l, h => by
  have h1 := yd (l := l) fun y hy => h y (List.mem_cons_of_mem _ hy)
  have h2 := h x (List.mem_cons_self ..)
  simp only [ef, List.map_cons, List.sum_cons, List.length_cons] at h1 ⊢
  rw [Nat.succ_mul]
  omega
theorem ucg {p : ah} (h : ey p) (b : Bool) (i : Int) : ef p.pages (gk b i) ≤ 4800 := by
 have hq := qr h.text
 have h1 := yd (l := p.pages) (g := gk b i) (m := 600) fun x hx => by
  obtain ⟨j, hj⟩ := List.getElem?_of_mem hx
  have hp := pageB_true.1 (h.page j x hj)
  unfold gk
  cases decide (fh b x = i)
  ·exact Nat.zero_le _
  ·cases b
   ·have := pr hp.found
    show x.found.length ≤ 600
    omega
   ·have := pr hp.well
    show x.well.length ≤ 600
    omega
 have := h.np
 have h2 : p.pages.length * 600 ≤ 8 * 600 := Nat.mul_le_mul_right _ this
 omega
theorem ubw {p : ah} (h : ey p) (b : Bool) (i : Int) : ef p.pages (i7 p.text b i) ≤ 4800 := by
 have hq := qr h.text
 have h1 := yd (l := p.pages) (g := i7 p.text b i) (m := 600) fun x hx => by
  have := w8 p.text x
  unfold i7
  cases decide (fh b x = i)
  ·exact Nat.zero_le _
  ·show (er p.text x).length ≤ 600
   omega
 have := h.np
 have h2 : p.pages.length * 600 ≤ 8 * 600 := Nat.mul_le_mul_right _ this
 omega
theorem wh {p : ah} (h : ey p) (b : Bool) (i : Nat) : 0 ≤ jg p b i ∧ jg p b i ≤ 90 := by
 unfold jg
 cases hr : (dp p b)[i]? with
 | none => exact ⟨Int.le_refl _, by show (0 : Int) ≤ 90; omega⟩
 | some r =>
  have hm := List.mem_of_getElem? hr
  have : fy r = true := h.rd r (by
   rw [List.mem_append]
   cases b
   ·exact .inl hm
   ·exact .inr hm)
  unfold fy at this
  rw [Bool.and_eq_true, inB_true, inB_true] at this
  exact this.2
theorem ufa {p : ah} (h : ey p) (b : Bool) (i : Nat) : 0 ≤ nz p b i ∧ nz p b i ≤ 48000 := by
 have h1 := ucg h b i
 have h2 := wh h b i
 unfold nz
 have h3 : (0 : Int) < 100 - jg p b i := by omega
 refine ⟨Int.ediv_nonneg (by omega) (by omega), ?_⟩
 have h4 : 100 * ((ef p.pages (gk b i) : Nat) : Int) / (100 - jg p b i) ≤ 100 * ((ef p.pages (gk b i) : Nat) : Int) / 10 := by
  refine Int.le_ediv_of_mul_le (by omega) ?_
  have h5 := Int.ediv_mul_le (100 * ((ef p.pages (gk b i) : Nat) : Int)) (show (100 - jg p b i) ≠ 0 by omega)
  have h6 : 0 ≤ 100 * ((ef p.pages (gk b i) : Nat) : Int) / (100 - jg p b i) := Int.ediv_nonneg (by omega) (by omega)
  have h7 : 100 * ((ef p.pages (gk b i) : Nat) : Int) / (100 - jg p b i) * 10 ≤ 100 * ((ef p.pages (gk b i) : Nat) : Int) / (100 - jg p b i) * (100 - jg p b i) := Int.mul_le_mul_of_nonneg_left (by omega) h6
  omega
 omega
theorem udn {p : ah} (h : ey p) (b : Bool) (i : Nat) : -4800 ≤ mn p b i ∧ mn p b i ≤ 48000 := by
 have h1 := ufa h b i
 have h2 := ubw h b i
 unfold mn
 omega
theorem ulf {p : ah} (h : ey p) (i : Nat) : -4800 ≤ cv p i ∧ cv p i ≤ 48000 := by
 unfold cv
 cases decide (i < p.firsts.length)
 ·exact udn h _ _
 ·exact udn h _ _
theorem um6 {p : ah} (h : ey p) (j : Nat) : 0 ≤ dc p j ∧ dc p j ≤ 600 := by
 refine ⟨ue8 h j, ?_⟩
 have hq := qr h.text
 unfold dc rg
 cases hx : p.pages[j]? with
 | none => show (0 : Int) ≤ 600; omega
 | some x =>
  have := xw p.text x
  show ut p.text x ≤ 600
  unfold ut
  omega
/-! ### What is told -/
section
def eg (p : ah) (n : Int) : Int := bif decide (cc p = 0) then (bif inB n 0 ((p.pages.length : Int) - 1) then 0 else 2) else cc p
def eb (p : ah) (e : Int) : Int := bif decide (e = 0) then (bif gj p then 0 else 8) else e
def kj (p : ah) (b : Bool) (n : Int) : Int := bif decide (cc p = 0) then (bif inB n 0 (((dp p b).length : Int) - 1) then 0 else 2) else cc p
def ja (p : ah) (m : Int) : Int := bif decide (cc p = 0) then (bif decide (m < 0) then 2 else bif gj p then 0 else 8) else cc p
def atE {α : Type} (e : Int) (d v : α) : α := bif decide (e = 0) then v else d
def oq (p : ah) (n : Int) : am := (p.pages[n.toNat]?).getD ⟨0, 0, 0, 0, [], []⟩
def qa (p : ah) (n : Int) : Int := atE (eg p n) 0 (fl p.text (oq p n) : Int)
def r8 (p : ah) (n : Int) : List PlaceD := atE (eg p n) [] (er p.text (oq p n))
def sd (p : ah) (n : Int) : List PlaceD := atE (eg p n) [] (d7 p.text (oq p n))
def o5 (p : ah) (b : Bool) (n : Int) : Int := atE (kj p b n) 0 (nz p b n.toNat)
def nl (p : ah) (n : Int) : Int := bif decide (eg p n = 0) then (bif decide ((d7 p.text (oq p n)).length = 0) then 6 else 0) else eg p n
def zv (x : am) (k : Nat) : bk := ⟨((x.found.length * x.well.length / k : Nat) : Int), (((x.found.length * x.well.length + k - 1) / k : Nat) : Int)⟩
def oy (p : ah) (n : Int) : bk := atE (nl p n) ⟨0, 0⟩ (zv (oq p n) (d7 p.text (oq p n)).length)
def oo (p : ah) (n : Int) : bk := atE (eb p (eg p n)) ⟨0, 0⟩ ⟨0, (bv p).alone (cv p) (dc p) n.toNat⟩
def n8 (p : ah) : Int := (bv p).most (cv p) (dc p)
def l4 (p : ah) : bk := atE (eb p (cc p)) ⟨0, 0⟩ ⟨0, n8 p⟩
noncomputable def jk (p : ah) : Nat → Int := (bv p).worst (cv p) (dc p)
noncomputable def p9 (p : ah) : List Int := atE (eb p (cc p)) [] (cr p.pages.length (jk p))
def qw (p : ah) (s : Nat) : Bool := decide ((bv p).f (cv p) (dc p) (fun i => s.testBit i) = n8 p)
def ia (p : ah) : List Int := n1 (qw p) (ce p)
def n5 (p : ah) (l : List Int) : List Int := l.filter fun k => decide (k < (p.firsts.length : Int))
def m7 (p : ah) (l : List Int) : List Int := (l.filter fun k => !decide (k < (p.firsts.length : Int))).map fun k => k - (p.firsts.length : Int)
def lg (C : Nat → Int) (l : List Int) (j : Nat) : Int := bif decide ((j : Int) ∈ l) then 0 else C j
def uf3 (p : ah) (l : List Int) : Int := (bv p).most (cv p) (lg (dc p) l)
def ur (p : ah) (m : Int) (s : Nat) : Bool := decide (uf3 p (e8 p.pages.length s) ≤ m)
def kd (p : ah) (m : Int) : List Int := atE (ja p m) [] (n1 (ur p m) p.pages.length)
end
theorem ugd (C : Nat → Int) : lg C [] = C := by funext j; simp [lg]
theorem ugc (C : Nat → Int) (l : List Int) (i : Nat) : lg C (l ++ [(i : Int)]) = ei (lg C l) i := by
 funext j
 unfold lg ei
 by_cases e : j = i
 ·subst e; simp
 ·rw [decide_eq_false e, cond_false]
  congr 1
  rw [decide_eq_decide, List.mem_append, List.mem_singleton]
  constructor
  ·rintro (h | h)
   ·exact h
   ·omega
  ·exact .inl
theorem ula (N : Net) (R : Nat → Int) (j : Nat) : N.lessR R j 0 = R := by
 funext i
 unfold Net.lessR
 cases N.by j i <;> simp
theorem ug7 {p : ah} (h : gj p = true) : ∀ i, i < (bv p).nr → 0 ≤ cv p i := fun i hi => by
 have := List.all_eq_true.1 h i (List.mem_range.2 hi)
 exact of_decide_eq_true this
end Go.AB
namespace Go.AB
open Go Go.RowKit
open Go.AB.Enc (cells)
open Go.PB (av ai PlaceD az bf ba bh am ah ck bk)
/-! ### Readers who miss less -/
theorem Net.most_mono {N : Net} (hN : N.Ok) {R R' C : Nat → Int} (h : ∀ i, i < N.nr → R' i ≤ R i) : N.most R' C ≤ N.most R C := by
 obtain ⟨S, hS⟩ := N.most_get R C
 rw [hS]
 refine Int.le_trans (Net.most_le hN S) ?_
 have : sm N.nr (fun i => bif S i then R' i else 0) ≤ sm N.nr (fun i => bif S i then R i else 0) := qy fun i hi => by
  cases S i
  ·exact Int.le_refl _
  ·exact h i hi
 unfold Net.f
 omega
theorem Net.alone_mono {N : Net} (hN : N.Ok) {R R' C : Nat → Int} (h : ∀ i, i < N.nr → R' i ≤ R i) (j : Nat) : N.alone R' C j ≤ N.alone R C j := by
 have := Net.le_alone.1 (Int.le_refl (N.alone R' C j))
 exact Net.le_alone.2 ⟨this.1, fun i hi => Int.le_trans (this.2 i hi) (h i (hN.by_lt hi))⟩
theorem umf {a b c : Int} (ha : 0 ≤ a) (hb : 0 < b) (hc : b ≤ c) : a / c ≤ a / b := by
 refine Int.le_ediv_of_mul_le hb ?_
 have h1 := Int.ediv_mul_le a (show c ≠ 0 by omega)
 have h2 : 0 ≤ a / c := Int.ediv_nonneg ha (by omega)
 have h3 := Int.mul_le_mul_of_nonneg_left hc h2
 omega
end Go.AB
namespace Go.AB
open Go Go.RowKit
open Go.AB.Enc (cells)
open Go.PB (av ai PlaceD az bf ba bh am ah ck bk)
end Go.AB
namespace Go.AB
open Go Go.RowKit
open Go.AB.Enc (cells)
open Go.PB (av ai PlaceD az bf ba bh am ah ck bk)
end Go.AB
namespace Go.AB
open Go Go.RowKit
open Go.AB.Enc (cells)
open Go.PB (av ai PlaceD az bf ba bh am ah ck bk)
end Go.AB
namespace Go.AB
open Go Go.RowKit
open Go.AB.Enc (cells)
open Go.PB (av ai PlaceD az bf ba bh am ah ck bk)
/-- as much as can be on a page, if nothing is lost by it -/
theorem Net.pick_alone {N : Net} {R C : Nat → Int} {j : Nat} (h0 : 0 ≤ N.alone R C j) (h : N.most R C ≤ N.alone R C j + N.most (N.lessR R j (N.alone R C j)) (ei C j)) : N.pick R C j = N.alone R C j :=
 Net.pick_eq ⟨h0, Int.le_refl _, h, fun m h1 h2 => by omega⟩
def m4 : ByteArray := ⟨#[116, 104, 101]⟩
def i5 : ByteArray := ⟨#[115, 101, 97]⟩
def xIs : ByteArray := ⟨#[105, 115]⟩
def m5 : ByteArray := ⟨#[111, 108, 100]⟩
def su : ByteArray := ⟨#[97, 110, 100]⟩
def exTx : ai := [⟨7, [[m4, i5, xIs, m5], [m5, m4, i5]]⟩, ⟨3, [[i5, su, i5]]⟩]
def exPg : List am := [⟨0, 0, 0, 0, [⟨0, 0, 0⟩], [⟨0, 0, 0⟩, ⟨0, 0, 3⟩]⟩, ⟨1, 2, 0, -1, [⟨0, 1, 1⟩], []⟩]
def exPr : ah := ⟨exTx, [⟨1, 50⟩, ⟨2, 0⟩], [⟨3, 60⟩], exPg⟩
theorem uz : eb exPr (cc exPr) = 0 := by decide +kernel
theorem xp_words : qa exPr 1 = 6 ∧ eg exPr 1 = 0 ∧ qa exPr 0 = 4 ∧ eg exPr 0 = 0 := ⟨by decide +kernel, by decide +kernel, by decide +kernel, by decide +kernel⟩
theorem xp_found : r8 exPr 0 = [⟨0, 0, 0⟩, ⟨0, 0, 3⟩] ∧ sd exPr 0 = [⟨0, 0, 0⟩] := ⟨by decide +kernel, by decide +kernel⟩
theorem xp_guess : oy exPr 0 = ⟨2, 2⟩ ∧ nl exPr 0 = 0 := ⟨by decide +kernel, by decide +kernel⟩
theorem xp_remain : oo exPr 1 = ⟨0, 1⟩ ∧ eb exPr (eg exPr 1) = 0 ∧ oo exPr 0 = ⟨0, 1⟩ ∧ eb exPr (eg exPr 0) = 0 := ⟨by decide +kernel, by decide +kernel, by decide +kernel, by decide +kernel⟩
theorem ugf : l4 exPr = ⟨0, 1⟩ := by decide +kernel
theorem xp_why : n5 exPr (ia exPr) = [0] ∧ m7 exPr (ia exPr) = [] := ⟨by decide +kernel, by decide +kernel⟩
theorem xp_bound : o5 exPr false 0 = 4 ∧ kj exPr false 0 = 0 ∧ o5 exPr false 1 = 0 ∧ kj exPr false 1 = 0 ∧ o5 exPr true 0 = 5 ∧ kj exPr true 0 = 0 := ⟨by decide +kernel, by decide +kernel, by decide +kernel, by decide +kernel, by decide +kernel, by decide +kernel⟩
theorem xp_chief : kd exPr 0 = [0, 1] ∧ ja exPr 0 = 0 ∧ kd exPr 1 = [] ∧ ja exPr 1 = 0 := ⟨by decide +kernel, by decide +kernel, by decide +kernel, by decide +kernel⟩
theorem uge : p9 exPr = [1, 0] := by
 have h0 : jk exPr 0 = 1 := by
  have := Net.pick_alone (N := bv exPr) (R := cv exPr) (C := dc exPr) (j := 0) (by decide +kernel) (by decide +kernel)
  exact this.trans (by decide +kernel)
 have h1 : jk exPr 1 = 0 := by
  have e : jk exPr 1 = (bv exPr).pick ((bv exPr).lessR (cv exPr) 0 1) (ei (dc exPr) 0) 1 := by
   show (bv exPr).pick ((bv exPr).lessR (cv exPr) 0 (jk exPr 0)) (ei (dc exPr) 0) 1 = _
   rw [h0]
  have := Net.pick_alone (N := bv exPr) (R := (bv exPr).lessR (cv exPr) 0 1) (C := ei (dc exPr) 0) (j := 1) (by decide +kernel) (by decide +kernel)
  exact e.trans (this.trans (by decide +kernel))
 unfold p9
 rw [uz]
 show [jk exPr 0, jk exPr 1] = _
 rw [h0, h1]
end Go.AB
namespace Go.AB
open Go Go.RowKit
open Go.AB.Enc (cells)
open Go.PB (av ai PlaceD az bf ba bh am ah ck bk)
/-- who is found by one reader alone, so far -/
def gd (F W : List PlaceD) (q : PlaceD) : Bool := decide (q ∈ F) != decide (q ∈ W)
theorem uj8 (F : List PlaceD) (q : PlaceD) : gd F [] q = decide (q ∈ F) := by simp [gd]
theorem yf {l : List PlaceD} (h : l.Pairwise fun a b => fb (cw a) (cw b) < 0) : l.Nodup := h.imp fun {a b} hab e => by
 rw [ny (by rfl)] at hab
 subst e
 exact pj _ hab
theorem uhf {l : List PlaceD} (h : l.Nodup) {k : Nat} {q : PlaceD} (hq : l[k]? = some q) : q ∉ l.take k := fun hm => by
 obtain ⟨i, hi⟩ := List.getElem?_of_mem hm
 have hik : i < k := by have := (List.getElem?_eq_some_iff.1 hi).1; rw [List.length_take] at this; omega
 rw [List.getElem?_take_of_lt hik] at hi
 obtain ⟨h1, h2⟩ := List.getElem?_eq_some_iff.1 hi
 obtain ⟨h3, h4⟩ := List.getElem?_eq_some_iff.1 hq
 have := (List.pairwise_iff_getElem.1 h) i k h1 h3 hik
 exact this (h2.trans h4.symm)
/-- the place at hand is in the map if the first reader found it -/
theorem v7 {F W : List PlaceD} (hW : W.Nodup) {k : Nat} {q : PlaceD} (hq : W[k]? = some q) : gd F (W.take k) q = decide (q ∈ F) := by
 unfold gd
 rw [decide_eq_false (uhf hW hq)]
 cases decide (q ∈ F) <;> rfl
theorem ucn {F W : List PlaceD} (hW : W.Nodup) {k : Nat} {q : PlaceD} (hq : W[k]? = some q) (x : PlaceD) : gd F (W.take (k + 1)) x = bif decide (x = q) then !decide (q ∈ F) else gd F (W.take k) x := by
 have hm : decide (x ∈ W.take (k + 1)) = (decide (x ∈ W.take k) || decide (x = q)) := by
  rw [List.take_add_one, hq, Option.toList_some, Bool.eq_iff_iff]
  simp
 by_cases e : x = q
 ·subst e
  unfold gd
  rw [hm, decide_eq_true (rfl : x = x), Bool.or_true, cond_true]
  cases decide (x ∈ F) <;> rfl
 ·unfold gd
  rw [hm, decide_eq_false e, Bool.or_false, cond_false]
/-- what both found so far -/
def mx (F W : List PlaceD) (k : Nat) : List PlaceD := (W.take k).filter fun q => decide (q ∈ F)
theorem ufc {F W : List PlaceD} {k : Nat} {q : PlaceD} (hq : W[k]? = some q) : mx F W (k + 1) = mx F W k ++ bif decide (q ∈ F) then [q] else [] := by
 unfold mx
 rw [List.take_add_one, hq, Option.toList_some, List.filter_append]
 cases h : decide (q ∈ F) <;> simp [h]
theorem ufd (F W : List PlaceD) (k : Nat) : (mx F W k).length ≤ W.length := by
 unfold mx
 have := List.length_filter_le (fun q => decide (q ∈ F)) (W.take k)
 rw [List.length_take] at this
 omega
theorem unb {p : ah} {last : Int} {x : am} (h : n3 p last x) : mx x.found x.well x.well.length = d7 p.text x := by
 have hs : (mx x.found x.well x.well.length).Pairwise fun a b => fb (cw a) (cw b) < 0 := by
  unfold mx
  rw [List.take_length]
  exact (xc h.well).filter _
 refine vk hs (xd _) fun q => ?_
 unfold mx
 rw [List.take_length, List.mem_filter, decide_eq_true_eq]
 show _ ↔ q ∈ (gh p.text).filter _
 rw [List.mem_filter, Bool.and_eq_true, decide_eq_true_eq, decide_eq_true_eq, allQ_mem]
 exact ⟨fun ⟨h1, h2⟩ => ⟨(mp h.well h1).1, h2, h1⟩, fun ⟨_, h2, h3⟩ => ⟨h3, h2⟩⟩
/-- both's places, and those of one alone in any order, put in order: all that are found -/
theorem ufz {p : ah} {last : Int} {x : am} (h : n3 p last x) {ks s : List PlaceD} (hn : ks.Nodup) (hk : ∀ q, q ∈ ks ↔ gd x.found x.well q = true) (hp : s.Perm (d7 p.text x ++ ks)) (hs : s.Pairwise fun a b => ¬ fb (cw b) (cw a) < 0) : s = er p.text x := by
 have hmb : ∀ q, q ∈ d7 p.text x ↔ q ∈ x.found ∧ q ∈ x.well := fun q => by
  show q ∈ (gh p.text).filter _ ↔ _
  rw [List.mem_filter, Bool.and_eq_true, decide_eq_true_eq, decide_eq_true_eq, allQ_mem]
  exact ⟨fun h => h.2, fun h2 => ⟨(mp h.well h2.2).1, h2⟩⟩
 have hko : ∀ q, gd x.found x.well q = true ↔ (q ∈ x.found ∧ q ∉ x.well) ∨ (q ∉ x.found ∧ q ∈ x.well) := fun q => by
  unfold gd
  by_cases h1 : q ∈ x.found <;> by_cases h2 : q ∈ x.well <;> simp [h1, h2]
 have hnd : (d7 p.text x ++ ks).Nodup := by
  rw [List.nodup_append]
  refine ⟨yf (xd _), hn, fun a ha b hb e => ?_⟩
  subst e
  have h1 := (hmb a).1 ha
  rcases (hko a).1 ((hk a).1 hb) with h2 | h2
  ·exact h2.2 h1.2
  ·exact h2.1 h1.1
 have hsn : s.Nodup := hp.nodup_iff.2 hnd
 have hs2 : s.Pairwise fun a b => fb (cw a) (cw b) < 0 := by
  have := List.Pairwise.and hs hsn
  refine this.imp fun {a b} hab => ?_
  rw [ny (by rfl)] at hab ⊢
  refine Classical.byContradiction fun hno => hab.2 ?_
  exact ulp (zl (by rfl) hno hab.1)
 refine vk hs2 (xd _) fun q => ?_
 rw [hp.mem_iff, List.mem_append, hmb, hk, hko]
 show _ ↔ q ∈ (gh p.text).filter _
 rw [List.mem_filter, Bool.or_eq_true, decide_eq_true_eq, decide_eq_true_eq, allQ_mem]
 constructor
 ·rintro (⟨h1, h2⟩ | ⟨h1, _⟩ | ⟨_, h2⟩)
  ·exact ⟨(mp h.found h1).1, .inl h1⟩
  ·exact ⟨(mp h.found h1).1, .inl h1⟩
  ·exact ⟨(mp h.well h2).1, .inr h2⟩
 ·rintro ⟨_, h1 | h1⟩
  ·by_cases h2 : q ∈ x.well
   ·exact .inl ⟨h1, h2⟩
   ·exact .inr (.inl ⟨h1, h2⟩)
  ·by_cases h2 : q ∈ x.found
   ·exact .inl ⟨h2, h1⟩
   ·exact .inr (.inr ⟨h2, h1⟩)
/-! ### The words of a page, line by line -/
def jl (t : ai) (x : am) (l : List PlaceD) : Nat := (l.filter (gx t x)).length
theorem uav (t : ai) (x : am) {k n : Nat} {c : av} {l : List ByteArray} (hn : c.lines[n]? = some l) : jl t x (ir t k c.lines (n + 1)) = jl t x (ir t k c.lines n) + bif inB ((fw t k : Int) + (n : Int)) x.fr x.to then l.length else 0 := by
 have e : ir t k c.lines (n + 1) = ir t k c.lines n ++ (ky k n l).map (·.1) := by
  unfold ir
  rw [ue6 k hn, List.map_append, List.append_assoc]
 unfold jl
 rw [e, List.filter_append, List.length_append]
 congr 1
 have hall : ∀ q ∈ (ky k n l).map (·.1), gx t x q = inB ((fw t k : Int) + (n : Int)) x.fr x.to := fun q hq => by
  obtain ⟨y, hy, rfl⟩ := List.mem_map.1 hq
  obtain ⟨w, hw, rfl⟩ := List.mem_mapIdx.1 hy
  show inB (qi t ⟨(k : Int), (n : Int), (w : Int)⟩) x.fr x.to = _
  unfold qi
  dsimp only
  rw [Int.toNat_natCast, Int.add_comm]
 have hlen : ((ky k n l).map (·.1)).length = l.length := by rw [List.length_map]; unfold ky; rw [List.length_mapIdx]
 cases hb : inB ((fw t k : Int) + (n : Int)) x.fr x.to
 ·rw [List.filter_eq_nil_iff.2 fun q hq => by rw [hall q hq, hb]; simp]; rfl
 ·rw [List.filter_eq_self.2 fun q hq => by rw [hall q hq, hb], hlen]; rfl
theorem ugp (t : ai) (x : am) : jl t x (gh t) = fl t x := rfl
end Go.AB
namespace Go.AB
open Go Go.RowKit
open Go.AB.Enc (cells)
open Go.PB (av ai PlaceD az bf ba bh am ah ck bk)
section
variable {N : Net} {R C : Nat → Int}
end
/-- proofs with readers who miss less -/
structure LessMiss (p q : ah) : Prop where
 text : q.text = p.text
 pages : q.pages = p.pages
 nf : q.firsts.length = p.firsts.length
 ns : q.seconds.length = p.seconds.length
 miss : ∀ b i, jg q b i ≤ jg p b i
 ids : (q.firsts ++ q.seconds).map (·.id) = (p.firsts ++ p.seconds).map (·.id)
 ok : ∀ r ∈ q.firsts ++ q.seconds, fy r = true
theorem LessMiss.net {p q : ah} (h : LessMiss p q) : bv q = bv p := by
 unfold bv ce
 rw [h.nf, h.ns, h.pages]
theorem LessMiss.cap {p q : ah} (h : LessMiss p q) : dc q = dc p := by
 funext j
 unfold dc rg
 rw [h.pages, h.text]
theorem LessMiss.left {p q : ah} (h : LessMiss p q) (hp : ey p) (i : Nat) : cv q i ≤ cv p i := by
 have key : ∀ b k, mn q b k ≤ mn p b k := fun b k => by
  have h1 := wh hp b k
  have h2 := h.miss b k
  unfold mn nz
  rw [h.pages, h.text]
  have := umf (a := 100 * ((ef p.pages (gk b k) : Nat) : Int)) (b := 100 - jg p b k) (c := 100 - jg q b k) (by omega) (by omega) (by omega)
  omega
 unfold cv
 rw [h.nf]
 cases decide (i < p.firsts.length)
 ·exact key _ _
 ·exact key _ _
theorem LessMiss.check {p q : ah} (h : LessMiss p q) (hp : cc p = 0) : cc q = 0 := by
 obtain ⟨h1, h2⟩ := ld hp
 have h3 : fq q = true := by
  unfold fq jf at h2 ⊢
  simp only [Bool.and_eq_true, decide_eq_true_eq, List.all_eq_true] at h2 ⊢
  obtain ⟨⟨⟨⟨⟨a1, a2⟩, _⟩, a4⟩, a5⟩, a6⟩ := h2
  refine ⟨⟨⟨⟨⟨by rw [h.nf]; exact a1, by rw [h.ns]; exact a2⟩, h.ok⟩, by rw [h.ids]; exact a4⟩, by rw [h.pages]; exact a5⟩, ?_⟩
  unfold pg at a6 ⊢
  rw [h.pages]
  rw [List.all_eq_true] at a6 ⊢
  intro i hi
  have := a6 i hi
  unfold rh at this ⊢
  rw [h.pages]
  cases hx : p.pages[i]? with
  | none => rfl
  | some x =>
   rw [hx] at this
   have k := pageB_true.1 this
   exact pageB_true.2 ⟨k.fr, k.to, by rw [h.text]; exact k.lt, by rw [h.nf]; exact k.fst, by rw [h.ns]; exact k.snd, by rw [h.text]; exact k.found, by rw [h.text]; exact k.well⟩
 unfold cc
 rw [h.text, h1.text, h3]; rfl
/-- .. have a truth only if the others have one, and leave no more -/
theorem LessMiss.truth {p q : ah} (h : LessMiss p q) (hp : ey p) (ht : gj q = true) : gj p = true := by
 refine List.all_eq_true.2 fun i hi => decide_eq_true ?_
 have e : ce q = ce p := by unfold ce; rw [h.nf, h.ns]
 have h1 := of_decide_eq_true (List.all_eq_true.1 ht i (by rw [e]; exact hi))
 have h2 := h.left hp i
 omega
theorem LessMiss.most {p q : ah} (h : LessMiss p q) (hp : ey p) : n8 q ≤ n8 p := by
 unfold n8
 rw [h.net, h.cap]
 exact Net.most_mono (zd hp) fun i _ => h.left hp i
theorem LessMiss.alone {p q : ah} (h : LessMiss p q) (hp : ey p) (j : Nat) : (bv q).alone (cv q) (dc q) j ≤ (bv p).alone (cv p) (dc p) j := by
 rw [h.net, h.cap]
 exact Net.alone_mono (zd hp) (fun i _ => h.left hp i) j
end Go.AB
namespace Go.PB
structure c4 where
 readers : List Int
 pages : List Int
 read : List (List Int)
/-- the reference's: readers and pages alone -/
structure c6 where
 readers : List Int
 pages : List Int
end Go.PB
namespace Go.AB
open Go Go.RowKit
open Go.AB.Enc (cells)
open Go.PB (av ai PlaceD az bf ba bh am ah ck bk c4 c6)
instance : Enc c4 := ⟨fun x => [lst x.readers, lst x.pages, lst x.read], 3, fun _ => rfl, fun m x c h => by
 simp only [List.mem_cons, List.not_mem_nil, or_false] at h
 rcases h with rfl | rfl | rfl
 ·exact bp m _
 ·exact bp m _
 ·exact bp m _, fun x c h => by
 simp only [List.mem_cons, List.not_mem_nil, or_false] at h; rcases h with rfl | rfl | rfl <;> rfl⟩
def ga (p : ah) (R C : Nat → Int) : c4 := ⟨cr (ce p) R, cr p.pages.length C, p.pages.map (dm p)⟩
/-- numbers that no sum of takes too far -/
structure Bd (p : ah) (R C : Nat → Int) : Prop where
 r : ∀ i, -1000000 ≤ R i ∧ R i ≤ 1000000
 c : ∀ j, 0 ≤ C j ∧ C j ≤ 1000000
 nr : ce p ≤ 6
 np : p.pages.length ≤ 8
theorem uu {p : ah} (h : ey p) : Bd p (cv p) (dc p) := ⟨fun i => by have := ulf h i; omega, fun j => by have := um6 h j; omega, by have := h.nf; have := h.ns; unfold ce; omega, h.np⟩
/-- what some first readers of a set have -/
def fR (R : Nat → Int) (S : Nat → Bool) (i : Nat) : Int := sm i fun k => bif S k then R k else 0
def fC (p : ah) (C : Nat → Int) (S : Nat → Bool) (j : Nat) : Int := sm j fun k => bif (bv p).hit S k then 0 else C k
theorem ueg (p : ah) (R C : Nat → Int) (S : Nat → Bool) : (bv p).f R C S = fR R S (ce p) + fC p C S p.pages.length := rfl
theorem yg {g : Nat → Int} {m : Int} (h : ∀ i, -m ≤ g i ∧ g i ≤ m) : ∀ n : Nat, -(n * m) ≤ sm n g ∧ sm n g ≤ n * m
 | 0 => by simp [sm]
 | n + 1 => by
  have h1 := yg h n
  have h2 := h n
  have e : ((n + 1 : Nat) : Int) * m = (n : Int) * m + m := by rw [Int.natCast_add, Int.add_mul]; simp
  simp only [sm]
  omega
theorem z6 {p : ah} {R C : Nat → Int} (h : Bd p R C) (S : Nat → Bool) (i : Nat) (hi : i ≤ ce p) : -6000000 ≤ fR R S i ∧ fR R S i ≤ 6000000 := by
 have := yg (g := fun k => bif S k then R k else 0) (m := 1000000) (fun k => by cases S k; simp; exact h.r k) i
 have := h.nr
 unfold fR
 omega
theorem uel {p : ah} {R C : Nat → Int} (h : Bd p R C) (S : Nat → Bool) (j : Nat) (hj : j ≤ p.pages.length) : 0 ≤ fC p C S j ∧ fC p C S j ≤ 8000000 := by
 have h1 := yg (g := fun k => bif (bv p).hit S k then 0 else C k) (m := 1000000) (fun k => by have := h.c k; cases (bv p).hit S k; simp; omega; simp) j
 have h2 := uhu (n := j) (g := fun k => bif (bv p).hit S k then 0 else C k) fun k _ => by have := h.c k; cases (bv p).hit S k; exact this.1; exact Int.le_refl _
 have := h.np
 unfold fC
 omega
theorem f_bd {p : ah} {R C : Nat → Int} (h : Bd p R C) (S : Nat → Bool) : -6000000 ≤ (bv p).f R C S ∧ (bv p).f R C S ≤ 14000000 := by
 have h1 := z6 h S _ (Nat.le_refl _)
 have h2 := uel h S _ (Nat.le_refl _)
 rw [ueg]
 omega
theorem udb {g : Nat → Int} {a b : Int} (h : ∀ s, a ≤ g s ∧ g s ≤ b) (k : Nat) : a ≤ mb g k ∧ mb g k ≤ b := by
 obtain ⟨s, _, e⟩ := zi (g := g) k
 rw [e]
 exact h s
theorem uc6 {p : ah} {R C : Nat → Int} (h : Bd p R C) : -6000000 ≤ (bv p).most R C ∧ (bv p).most R C ≤ 14000000 := udb (fun s => f_bd h _) _
end Go.AB
namespace Go.AB
open Go Go.RowKit
open Go.AB.Enc (cells)
section
variable {P : Program} {o : Oper} {st : St} {K : St → Prop}
end
end Go.AB
namespace Go.AB
open Go Go.RowKit Go.Shelf Go.Proofs
open Go.AB.Enc (cells)
section
variable {P : Program} {o : Oper} {st : St} {K : St → Prop}
theorem uj0 {E : Env} {w : World} {v : Value} {n ver len : Nat} (hp : R E w (.own n ver len) v) : ∃ a cap, v = .slice a len cap ∧ n < E.nx ∧ len ≤ cap ∧ cap ≤ maxLen ∧ ∀ ver' wv val, E.T n = some (ver', wv, val) → ver ≤ ver' ∧ (ver = ver' → ∃ m, len ≤ m ∧ val = .slice a m cap) := by
 cases hp with
 | own h1 h2 h3 h4 => exact ⟨_, _, rfl, h1, h2, h3, h4⟩
/-- append of nothing onto an own slice. -/
theorem uko {t e : TypeId} {sz bytes n ver m : Nat} [AppT P t e sz bytes] {s x : Operand} {tk : Tok} (ho : o.op = .call { callee := .builtin .append, args := #[s, x], argTypes := #[t, t] }) (hs : evC st s = .own n ver m) (hx : evC st x = .list [] tk) : NStep P o st (.own n ver m) := fun E w a hsim => by
 obtain ⟨ht, i, z, hie, hz, h1, h2, h3⟩ := AppT.spec (P := P) (t := t) (e := e) (sz := sz) (bytes := bytes)
 have hown := hs ▸ hsim.ev s
 obtain ⟨ad, cap, e1, q1, q2, q3, q4⟩ := uj0 hown
 obtain ⟨ao, c, _, _, e3, _⟩ := (hx ▸ hsim.ev x).list_inv
 refine ⟨a.eval s, hown, fun w' => ?_⟩
 have hrun := th (P := P) w' t o.type e i ht hie ad ao m cap c q2
 simp only [execOp, ho, resolve, invoke, builtin, Sem.run_bind, Sem.run_pure, Result.andThen_ok, List.map_toArray, List.map_cons, List.map_nil, e1, e3]
 rw [List.length_nil] at *
 rw [hrun]; rfl
/-- append of data onto an own slice. -/
theorem o1 {α : Type} [Enc α] {t e : TypeId} {bytes n ver wv : Nat} [AppT P t e (Enc.n α) bytes] {s x : Operand} {tk : Tok} {rows : List (List C)} {xs : List α} {m : Nat} {cs : List C} (ys : List α) (ho : o.op = .call { callee := .builtin .append, args := #[s, x], argTypes := #[t, t] }) (hs : evC st s = .own n ver m) (hG : st.G n = some (.arr ver wv e (Enc.n α) m cs)) (hc : cs = ci xs) (hm : m = xs.length) (hx : evC st x = .list rows tk) (hy : rows = ys.map cells) (hb : (xs.length + ys.length) * bytes ≤ 140737488355328) (hmax : xs.length + ys.length ≤ 9223372036854775807)
  (h : ∀ v : Nat, K (St.put { st with G := ak st.G n (.arr v wv e (Enc.n α) (xs ++ ys).length (ci (xs ++ ys))) } o.dst (.own n v (xs ++ ys).length))) : EStep P o st K := by
 subst hc; subst hm; subst hy
 by_cases h0 : ys = []
 ·subst h0
  have h1 := h ver
  simp only [List.append_nil] at h1
  have h2 : ak st.G n (.arr ver wv e (Enc.n α) xs.length (ci xs)) = st.G := by
   funext k
   simp only [ak]
   split
   ·rename_i e; rw [e, hG]
   ·rfl
  rw [h2] at h1
  exact SStep.e' (NStep.s (D := fun _ => True) (uko ho hs hx)) h1
 ·refine umo ho hs hG hx (mc ys) (by simpa using hb) (by simpa using hmax) (by simpa using h0) ?_
  have h1 := h (ver + 1)
  rw [ueb] at h1
  simpa [ci] using h1
end
end Go.AB
namespace Go.AB
open Go Go.RowKit
open Go.AB.Enc (cells)
open Go.PB (av ai PlaceD az bf ba bh am ah ck bk c4 c6)
/-- the first of some numbers that is not nought -/
def orN (xs : List Int) : Int := (xs.find? fun x => !decide (x = 0)).getD 0
theorem uj2 {xs : List Int} {k : Nat} {x : Int} (hx : xs[k]? = some x) (hne : x ≠ 0) (h : ∀ y ∈ xs.take k, y = 0) : orN xs = x := by
 unfold orN
 rw [List.find?_eq_some_iff_append.2 ⟨by simpa using hne, xs.take k, xs.drop (k + 1), ?_, fun y hy => by simp [h y hy]⟩]
 ·rfl
 obtain ⟨h1, h2⟩ := List.getElem?_eq_some_iff.1 hx
 rw [← h2, ← List.drop_eq_getElem_cons h1, List.take_append_drop]
theorem uj4 {xs : List Int} (h : ∀ y ∈ xs, y = 0) : orN xs = 0 := by
 unfold orN
 rw [List.find?_eq_none.2 fun y hy => by simp [h y hy]]
 rfl
theorem ukx {α : Type} {l : List α} {k : Nat} {x : α} {p : α → Prop} (hx : l[k]? = some x) (hp : p x) (h : ∀ y ∈ l.take k, p y) : ∀ y ∈ l.take (k + 1), p y := fun y hy => by
 rw [List.take_add_one, hx] at hy
 simp only [Option.toList_some, List.mem_append, List.mem_singleton] at hy
 rcases hy with hy | rfl
 ·exact h y hy
 exact hp
def l8 (a b : PlaceD) : Int := fb (cw a) (cw b)
theorem uj3 (a b : PlaceD) : orN [ii a.ch b.ch, ii a.ln b.ln, ii a.wd b.wd] = l8 a b := by
 unfold orN l8 cw
 simp only [fb]
 by_cases h1 : ii a.ch b.ch = 0
 ·by_cases h2 : ii a.ln b.ln = 0
  ·by_cases h3 : ii a.wd b.wd = 0 <;> simp [h1, h2, h3]
  simp [h1, h2]
 simp [h1]
/-- the order of lists, shorter ones first -/
def yi (a b : List Int) : Int := orN [(a.length : Int) - (b.length : Int), fb a b]
theorem vo (a b : List Int) : decide (yi a b < 0) = iw a b := by
 unfold yi orN iw
 by_cases h1 : (a.length : Int) - (b.length : Int) = 0
 ·have h2 : a.length = b.length := by omega
  have h3 : ¬ a.length < b.length := by omega
  by_cases h4 : fb a b = 0
  ·simp [h2, h4]
  simp [h2, h4]
 have h2 : ¬ a.length = b.length := by omega
 by_cases h3 : a.length < b.length
 ·have : (a.length : Int) - (b.length : Int) < 0 := by omega
  simp [h1, h2, h3, this]
 have : ¬ (a.length : Int) - (b.length : Int) < 0 := by omega
 simp [h1, h2, h3, this]
def mh (t : ai) (k : Nat) : List Int := (List.range k).map fun i => (fw t i : Int)
theorem ua7 (t : ai) (k : Nat) : (mh t k).length = k := by simp [mh]
theorem ua8 {t : ai} {k i : Nat} (h : i < k) : (mh t k)[i]? = some (fw t i : Int) := by simp [mh, h]
theorem uhq (t : ai) (k : Nat) : mh t (k + 1) = mh t k ++ [(fw t k : Int)] := by
 unfold mh
 rw [List.range_succ, List.map_append]; rfl
theorem vh {t : ai} (ht : dr t = true) (k : Nat) (hk : k ≤ t.length) : fw t k ≤ 60 := by
 obtain ⟨h1, h2, h3⟩ := l5 ht
 have key : ∀ k, k ≤ t.length → fw t k ≤ 10 * k := by
  intro k
  induction k with
  | zero => intro _; rw [ua9]; exact Nat.zero_le _
  | succ k ih =>
   intro hk
   have hc : t[k]? = some t[k] := List.getElem?_eq_getElem (by omega)
   rw [s9 hc]
   have := ih (by omega)
   have := (h3 _ (f4 hc)).2.1
   omega
 have := key k hk
 omega
end Go.AB
namespace Go.Proofs.YtbbdginipiljdaaDoor
set_option maxRecDepth 10000
open Go.RowKit Go.AB
open Go.AB.Enc (cells)
open Go.PB (av ai PlaceD az bf ba bh am ah ck bk c4 c6)
theorem ucf (xs : List Int) : Pure Tryd.prog 87 [lst xs] (.v (.int .i64 (orN xs))) := by
 refine cy Tryd.func87 rfl (fun m => .v) fun G nx => ?_
 simp only [Tryd.ntmps87, List.length_cons, List.length_nil, Nat.reduceAdd, Nat.reduceSub]
 refine bu fun hlt => ?_
 dsimp only at hlt
 refine kf 0 (fun hf => ?_)
 replace hf := (fit_lst.1 hf).1
 refine yS fun _ K1 => ?_
 refine yR ?_
 refine yA rfl rfl ?_
 refine yN ?_
 dsimp only [St.put]
 refine K1 _ ?_
 refine yS fun _ K2 => ?_
 refine yR ?_
 refine yA rfl rfl ?_
 refine yN ?_
 dsimp only [St.put]
 refine K2 _ ?_
 refine yS fun _ K3 => ?_
 refine yS fun _ K4 => ?_
 refine yR ?_
 refine yM rfl rfl ?_
 refine aa rfl (bn rfl rfl (List.length_map _)) ?_
 refine yM rfl rfl ?_
 refine yN ?_
 dsimp only [St.put]
 refine K4 _ ?_
 refine bj ?_
 refine cp 9 ?_
 refine zQ ?_
 refine dl (G) zX ?_
 dsimp only
 refine dj (X := Nat) (fun k => k ≤ xs.length ∧ ∀ y ∈ xs.take k, y = 0) (fun k => xs.length - k) (fun k => [(4, .any), (5, .any), (8, .v (.int .i64 (k : Int)))]) (fun k G' => G') 0 rfl ?_ ?_ (fun _ _ h => h) ?_ ?_ ?_
 ·exact ⟨by simp, by simp⟩
 ·exact zF
 ·rintro k hI
  exact zL
 ·exact fun _ _ _ _ h => .inl h
 rintro k hI
 dsimp only at hI ⊢
 refine yS fun _ K5 => ?_
 refine yR ?_
 refine aa rfl (cn rfl rfl rfl) ?_
 refine yN ?_
 dsimp only [St.put]
 refine K5 _ ?_
 refine yS fun _ K6 => ?_
 refine ar rfl (fun hc => ?_) (fun hc => ?_)
 ·replace hc := of_decide_eq_true hc
  obtain ⟨x, hx⟩ : ∃ x, xs[k]? = some x := dh (by omega)
  refine ax ?_
  refine K6 _ ?_
  refine yS fun _ K7 => ?_
  refine bj ?_
  refine yS fun _ K8 => ?_
  refine yR ?_
  refine aa rfl (cb rfl rfl rfl rfl (bx (by assumption)) (Enc.len _)) ?_
  refine yL rfl rfl rfl ?_
  refine yA rfl rfl ?_
  refine yN ?_
  dsimp only [St.put]
  refine K8 _ ?_
  refine yS fun _ K9 => ?_
  refine yR ?_
  refine yM rfl rfl ?_
  refine yM rfl rfl ?_
  refine aa rfl (ez rfl rfl rfl) ?_
  refine yN ?_
  dsimp only [St.put]
  refine K9 _ ?_
  refine ar rfl (fun hc => ?_) (fun hc => ?_)
  ·replace hc := j0 hc
   refine yS fun _ K10 => ?_
   refine yR ?_
   refine yM rfl rfl ?_
   refine yA rfl rfl ?_
   refine yN ?_
   dsimp only [St.put]
   refine K10 _ ?_
   refine aq ?_
   refine bg rfl (by constructor) zN zS ?_
   exact vi (uj2 hx hc hI.2).symm
  replace hc := il hc
  refine ax ?_
  refine K7 _ ?_
  refine yR ?_
  refine aa rfl (cg rfl rfl rfl (by omega)) ?_
  refine yM rfl rfl ?_
  refine yN ?_
  dsimp only [St.put]
  exact ⟨k + 1, by omega, ⟨by omega, ukx hx hc hI.2⟩, ⟨⟨rfl, rfl⟩, zF, zB, zN, zX⟩⟩
 try replace hc := of_decide_eq_false hc
 refine dg ?_
 refine K3 _ ?_
 refine yS fun _ K11 => ?_
 refine yR ?_
 refine yM rfl rfl ?_
 refine yA rfl rfl ?_
 refine yN ?_
 dsimp only [St.put]
 refine K11 _ ?_
 refine aq ?_
 refine bg rfl (by constructor) zN zS ?_
 exact vi (by
  rw [uj4]
  have := hI.2
  rwa [gq (by omega)] at this)
theorem ujq (n lo hi : Int) : Pure Tryd.prog 81 [.v (.int .i64 n), .elem [.v (.int .i64 lo)], .elem [.v (.int .i64 hi)]] (.v (.bool (mi n lo hi))) := by
 refine cy Tryd.func81 rfl (fun m => .v) fun G nx => ?_
 simp only [Tryd.ntmps81, List.length_cons, List.length_nil, Nat.reduceAdd, Nat.reduceSub]
 refine bu fun hlt => ?_
 dsimp only at hlt
 refine yS fun _ K1 => ?_
 refine yR ?_
 refine yA rfl rfl ?_
 refine yN ?_
 dsimp only [St.put]
 refine K1 _ ?_
 refine yS fun _ K2 => ?_
 refine yR ?_
 refine yM rfl rfl ?_
 refine yL rfl rfl rfl ?_
 refine aa rfl (cn rfl rfl rfl) ?_
 refine et (fun hs => ?_) (fun hs => ?_)
 ·try replace hs := of_decide_eq_true hs
  refine yM rfl rfl ?_
  refine yK rfl ?_
  refine yK rfl ?_
  refine yK rfl ?_
  refine aa rfl (bw rfl rfl (by constructor)) ?_
  refine yA rfl rfl ?_
  refine yN ?_
  dsimp only [St.put]
  refine K2 _ ?_
  refine aq ?_
  refine bg rfl (by constructor) zN zS ?_
  exact vb (by simp [mi, hs]; try omega)
 try replace hs := of_decide_eq_false hs
 refine yM rfl rfl ?_
 refine yM rfl rfl ?_
 refine yL rfl rfl rfl ?_
 refine aa rfl (gt rfl rfl rfl) ?_
 refine aa rfl (cm rfl rfl (by constructor)) ?_
 refine yA rfl rfl ?_
 refine yN ?_
 dsimp only [St.put]
 refine K2 _ ?_
 refine aq ?_
 refine bg rfl (by constructor) zN zS ?_
 exact vb (by simp [mi, hs]; try omega)
theorem nd (lo hi : Int) (xs : List Int) : Pure Tryd.prog 48 [.v (.int .i64 lo), .v (.int .i64 hi), lst xs] (.v (.bool (w4 lo hi xs))) := by
 refine cy Tryd.func48 rfl (fun m => .v) fun G nx => ?_
 simp only [Tryd.ntmps48, List.length_cons, List.length_nil, Nat.reduceAdd, Nat.reduceSub]
 refine bu fun hlt => ?_
 dsimp only at hlt
 refine yS fun _ K1 => ?_
 refine yR ?_
 try dsimp only [St.put]
 refine yB rfl rfl rfl ?_
 try dsimp only [St.put]
 refine yB rfl rfl rfl ?_
 refine yA rfl rfl ?_
 refine yN ?_
 dsimp only [St.put]
 refine K1 _ ?_
 refine yS fun _ K2 => ?_
 refine yR ?_
 refine yM rfl rfl ?_
 refine aa rfl (qf rfl rfl) ?_
 try dsimp only [St.put]
 refine ae rfl (ay rfl rfl rfl (xr xs (fun n => mi n lo hi) _ _ fun x _ => ujq x lo hi) ?_)
 refine aa rfl (d9 rfl rfl) ?_
 refine yA rfl rfl ?_
 refine yN ?_
 dsimp only [St.put]
 refine K2 _ ?_
 refine aq ?_
 refine bg rfl (by constructor) zN zS ?_
 rfl
theorem yz (a b : PlaceD) : Pure Tryd.prog 75 [val a, val b] (.v (.int .i64 (l8 a b))) := by
 refine cy Tryd.func75 rfl (fun m => .v) fun G nx => ?_
 simp only [Tryd.ntmps75, List.length_cons, List.length_nil, Nat.reduceAdd, Nat.reduceSub]
 refine bu fun hlt => ?_
 dsimp only at hlt
 refine yS fun _ K1 => ?_
 refine yR ?_
 try dsimp only [St.put]
 refine yB rfl rfl rfl ?_
 try dsimp only [St.put]
 refine yB rfl rfl rfl ?_
 refine yA rfl rfl ?_
 refine yN ?_
 dsimp only [St.put]
 refine K1 _ ?_
 refine yS fun _ K2 => ?_
 refine gm [(0, none), (1, none), (2, none), (3, none), (5, none), (6, none), (7, none), (8, none), (10, none), (11, none), (12, none), (13, none), (4, none), (9, none), (14, none), (15, none), (16, none), (17, none)] (fun i => [14, 15, 16].contains i) (fun i => [4, 9, 14, 15, 16].contains i) (fun i => [0, 2, 5, 7, 10, 12, 17].contains i) [] (by kernel_rfl) (by kernel_rfl) ?_
 refine af rfl rfl rfl rfl (bz rfl rfl rfl) ?_
 try dsimp only [St.put]
 refine aw rfl rfl rfl rfl (bq rfl rfl) ?_
 refine af rfl rfl rfl rfl (bz rfl rfl rfl) ?_
 try dsimp only [St.put]
 refine aw rfl rfl rfl rfl (bq rfl rfl) ?_
 refine af rfl rfl rfl rfl (bz rfl rfl rfl) ?_
 try dsimp only [St.put]
 refine aw rfl rfl rfl rfl (bq rfl rfl) ?_
 refine af rfl rfl rfl rfl (bz rfl rfl rfl) ?_
 try dsimp only [St.put]
 refine aw rfl rfl rfl rfl (bq rfl rfl) ?_
 refine af rfl rfl rfl rfl (bz rfl rfl rfl) ?_
 try dsimp only [St.put]
 refine aw rfl rfl rfl rfl (bq rfl rfl) ?_
 refine af rfl rfl rfl rfl (bz rfl rfl rfl) ?_
 try dsimp only [St.put]
 refine aw rfl rfl rfl rfl (bq rfl rfl) ?_
 refine iz ?_
 try dsimp only [St.put]
 refine i0 rfl rfl rfl (ay rfl rfl rfl (xh _ _) ⟨zD, ?_⟩)
 try dsimp only [St.put]
 refine i0 rfl rfl rfl (ay rfl rfl rfl (xh _ _) ⟨zD, ?_⟩)
 try dsimp only [St.put]
 refine gn rfl rfl rfl rfl (ay rfl rfl rfl (xh _ _) ?_)
 try dsimp only [St.put]
 refine gn rfl rfl rfl rfl (du rfl rfl rfl (by decide) (by decide) zR (by decide) ?_)
 try dsimp only [St.put]
 refine gn rfl rfl rfl rfl (ay rfl rfl rfl (ucf [ii a.ch b.ch, ii a.ln b.ln, ii a.wd b.wd]) ?_)
 refine ec rfl rfl rfl rfl (dn rfl (by constructor)) ?_
 refine iy ?_
 dsimp only [St.put]
 refine K2 _ ?_
 refine aq ?_
 refine bg rfl (by constructor) zN zS ?_
 exact vi (uj3 a b)
theorem ujm (a b : List Int) (ha : a.length ≤ 1000) (hb : b.length ≤ 1000) : Pure Tryd.prog 59 [lst a, lst b] (.v (.int .i64 (yi a b))) := by
 refine cy Tryd.func59 rfl (fun m => .v) fun G nx => ?_
 simp only [Tryd.ntmps59, List.length_cons, List.length_nil, Nat.reduceAdd, Nat.reduceSub]
 refine bu fun hlt => ?_
 dsimp only at hlt
 refine yS fun _ K1 => ?_
 refine yR ?_
 refine yA rfl rfl ?_
 refine yN ?_
 dsimp only [St.put]
 refine K1 _ ?_
 refine yS fun _ K2 => ?_
 refine yR ?_
 refine yM rfl rfl ?_
 refine aa rfl (bn rfl rfl (List.length_map _)) ?_
 refine yM rfl rfl ?_
 refine aa rfl (bn rfl rfl (List.length_map _)) ?_
 refine aa rfl (gy rfl rfl rfl (by omega)) ?_
 refine yM rfl rfl ?_
 refine yM rfl rfl ?_
 try dsimp only [St.put]
 refine ae rfl (ay rfl rfl rfl (umu a b ha hb) ?_)
 try dsimp only [St.put]
 refine ae rfl (du rfl rfl rfl (by decide) (by decide) zR (by decide) ?_)
 try dsimp only [St.put]
 refine ae rfl (ay rfl rfl rfl (ucf [(a.length : Int) - (b.length : Int), fb a b]) ?_)
 refine yA rfl rfl ?_
 refine yN ?_
 dsimp only [St.put]
 refine K2 _ ?_
 refine aq ?_
 refine bg rfl (by constructor) zN zS ?_
 rfl
theorem ujl (t : ai) (q : PlaceD) (ht : dr t = true) : Pure Tryd.prog 74 [gp t, val q] (.v (.bool (fu t q))) := by
 refine cy Tryd.func74 rfl (fun m => .v) fun G nx => ?_
 simp only [Tryd.ntmps74, List.length_cons, List.length_nil, Nat.reduceAdd, Nat.reduceSub]
 refine bu fun hlt => ?_
 dsimp only at hlt
 obtain ⟨hl1, hl2, hl3⟩ := l5 ht
 refine yS fun _ K1 => ?_
 refine yR ?_
 try dsimp only [St.put]
 refine yB rfl rfl rfl ?_
 try dsimp only [St.put]
 refine yB rfl rfl rfl ?_
 refine yA rfl rfl ?_
 refine yN ?_
 dsimp only [St.put]
 refine K1 _ ?_
 refine yS fun _ K2 => ?_
 refine cp 5 ?_
 refine zQ ?_
 refine lx (X := Bool) (fun b => b = !(gw t (q.ch, q.ln)).isSome) (fun b => [(29, .v (.bool b))]) (fun b G' => G') rfl ?_ (fun _ _ _ _ h => .inl h) ?_ ?_
 ·rintro b hI
  exact zL
 ·refine qn [(0, none), (1, none), (2, none), (3, none), (4, none), (5, none)] (fun _ => false) (fun i => [0, 2, 3, 4].contains i) 19 (rl [6, 19]) (by kernel_rfl) (by kernel_rfl) ?_
  refine af rfl rfl rfl rfl (bz rfl rfl rfl) ?_
  try dsimp only [St.put]
  refine aw rfl rfl rfl rfl (bq rfl rfl) ?_
  refine af rfl rfl rfl rfl (bn rfl rfl (List.length_map _)) ?_
  refine af rfl rfl rfl rfl (gy rfl rfl rfl (by omega)) ?_
  refine af rfl rfl rfl rfl (bz rfl rfl rfl) ?_
  try dsimp only [St.put]
  refine aw rfl rfl rfl rfl (bq rfl rfl) ?_
  refine cj ?_
  refine dt [6] (by kernel_rfl) (by simp) ?_
  refine dw ?_ ?_
  ·try dsimp only [St.put]
   refine ix rfl rfl rfl (du rfl rfl rfl (by decide) (by decide) zR (by decide) ?_)
   refine dt [7] (by kernel_rfl) (by simp) ?_
   refine dw ?_ ?_
   ·try dsimp only [St.put]
    refine ix rfl rfl rfl (ay rfl rfl rfl (nd _ _ [_]) ?_)
    refine el [(8, none), (9, none), (10, none), (11, none), (12, none), (13, none), (14, none), (15, none), (16, none), (17, none), (18, none), (19, none), (20, none)] (fun i => [8, 9, 10, 12, 14, 15, 17, 18, 19].contains i) 4 (rl [21, 4]) (by kernel_rfl) ?_
    refine af rfl rfl rfl rfl (d9 rfl rfl) ?_
    refine xM rfl rfl rfl rfl rfl ?_
    refine jx (fun hs => ?_) (fun hs => ?_)
    ·have h8 : inB q.ch 0 ((t.length : Int) - 1) = false := by rw [ge] at hs; simpa using hs
     refine aj rfl rfl rfl ?_
     refine aj rfl rfl rfl ?_
     refine aj rfl rfl rfl ?_
     refine aj rfl rfl rfl ?_
     refine aj rfl rfl rfl ?_
     refine aj rfl rfl rfl ?_
     refine aj rfl rfl rfl ?_
     refine aj rfl rfl rfl ?_
     refine aj rfl rfl rfl ?_
     refine aj rfl rfl rfl ?_
     refine aj rfl rfl rfl ?_
     refine cj ?_
     refine dt [21] (by kernel_rfl) (by simp) ?_
     refine dw ?_ ?_
     ·refine f8 rfl rfl rfl ?_
      refine dt [22] (by kernel_rfl) (by simp) ?_
      refine dw ?_ ?_
      ·refine f8 rfl rfl rfl ?_
       refine el [(23, none), (24, none)] (fun i => [23, 24].contains i) 0 (rl [25]) (by kernel_rfl) ?_
       refine aj rfl rfl rfl ?_
       refine af rfl rfl rfl rfl (bw rfl rfl (by constructor)) ?_
       refine cj ?_
       dsimp only [St.put]
       refine g9 (by kernel_rfl) ?_
       refine ⟨_, ?_, ⟨⟨rfl, rfl⟩, zF, zB, zN, zX⟩⟩
       rw [vd]
       (simp [h8]; done)
      exact dv
     exact dv
    have h8 : inB q.ch 0 ((t.length : Int) - 1) = true := by rw [ge] at hs; simpa using hs
    have hn1' := h8
    simp only [inB_true] at hn1'
    obtain ⟨c, hcx⟩ : ∃ c, t[q.ch.toNat]? = some c := dh (by omega)
    have hnl : lk t q.ch = c.lines.length := by simp [lk, hcx]
    have hll := (hl3 c (f4 hcx)).2.1
    have hch : q.ch = ((q.ch.toNat : Nat) : Int) := by omega
    refine af rfl rfl rfl rfl (bz rfl rfl rfl) ?_
    try dsimp only [St.put]
    refine aw rfl rfl rfl rfl (bq rfl rfl) ?_
    refine af rfl rfl rfl rfl (bz rfl rfl rfl) ?_
    try dsimp only [St.put]
    refine aw rfl rfl rfl rfl (bq rfl rfl) ?_
    try dsimp only [St.put]
    refine af rfl rfl rfl rfl (cb rfl rfl rfl (by omega) (bx (by assumption)) (Enc.len _)) ?_
    refine af rfl rfl rfl rfl (bz rfl rfl rfl) ?_
    try dsimp only [St.put]
    refine aw rfl rfl rfl rfl (bq rfl rfl) ?_
    refine af rfl rfl rfl rfl (bn rfl rfl (List.length_map _)) ?_
    refine af rfl rfl rfl rfl (gy rfl rfl rfl (by omega)) ?_
    refine af rfl rfl rfl rfl (bz rfl rfl rfl) ?_
    try dsimp only [St.put]
    refine aw rfl rfl rfl rfl (bq rfl rfl) ?_
    refine cj ?_
    refine dt [21] (by kernel_rfl) (by simp) ?_
    refine dw ?_ ?_
    ·try dsimp only [St.put]
     refine ix rfl rfl rfl (du rfl rfl rfl (by decide) (by decide) zR (by decide) ?_)
     refine dt [22] (by kernel_rfl) (by simp) ?_
     refine dw ?_ ?_
     ·try dsimp only [St.put]
      refine ix rfl rfl rfl (ay rfl rfl rfl (nd _ _ [_]) ?_)
      refine el [(23, none), (24, none)] (fun i => [23, 24].contains i) 0 (rl [25]) (by kernel_rfl) ?_
      refine af rfl rfl rfl rfl (d9 rfl rfl) ?_
      refine af rfl rfl rfl rfl (cm rfl rfl (by constructor)) ?_
      refine cj ?_
      dsimp only [St.put]
      refine g9 (by kernel_rfl) ?_
      refine ⟨_, ?_, ⟨⟨rfl, rfl⟩, zF, zB, zN, zX⟩⟩
      rw [vd]
      (simp [h8, hnl, ge]; done)
     exact dv
    exact dv
   exact dv
  exact dv
 rintro b hst
 dsimp only at hst ⊢
 refine ar rfl (fun hc => ?_) (fun hc => ?_)
 ·have hw : gw t (q.ch, q.ln) = none := by rw [hc] at hst; simpa using hst.symm
  refine yS fun _ K4 => ?_
  refine yR ?_
  refine yA rfl rfl ?_
  refine yN ?_
  dsimp only [St.put]
  refine K4 _ ?_
  refine aq ?_
  refine bg rfl (by constructor) zN zS ?_
  exact vb (by unfold fu; rw [hw])
 have hw0 : (gw t (q.ch, q.ln)).isSome = true := by rw [hc] at hst; simpa using hst.symm
 obtain ⟨l, hw⟩ := Option.isSome_iff_exists.1 hw0
 obtain ⟨k, n, c, hkn, hk, hn⟩ := sw hw
 have hch : q.ch = ((k : Nat) : Int) := congrArg Prod.fst hkn
 have hln : q.ln = ((n : Nat) : Int) := congrArg Prod.snd hkn
 have hwl := u9 ht hw
 refine ax ?_
 refine K2 _ ?_
 refine yS fun _ K5 => ?_
 refine gm [(0, none), (1, none), (2, none), (3, none), (4, none), (5, none), (6, none), (7, none), (8, none), (9, none), (10, none), (11, none), (12, none), (13, none), (14, none), (15, none), (16, none), (17, none)] (fun i => [16].contains i) (fun i => [15, 16].contains i) (fun i => [0, 2, 4, 5, 7, 9, 11, 12, 13, 17].contains i) [] (by kernel_rfl) (by kernel_rfl) ?_
 refine af rfl rfl rfl rfl (bz rfl rfl rfl) ?_
 try dsimp only [St.put]
 refine aw rfl rfl rfl rfl (bq rfl rfl) ?_
 refine af rfl rfl rfl rfl (bz rfl rfl rfl) ?_
 try dsimp only [St.put]
 refine aw rfl rfl rfl rfl (bq rfl rfl) ?_
 try dsimp only [St.put]
 refine af rfl rfl rfl rfl (cb rfl rfl rfl (by omega) (bx (by assumption)) (Enc.len _)) ?_
 refine af rfl rfl rfl rfl (bz rfl rfl rfl) ?_
 try dsimp only [St.put]
 refine aw rfl rfl rfl rfl (bq rfl rfl) ?_
 refine af rfl rfl rfl rfl (bz rfl rfl rfl) ?_
 try dsimp only [St.put]
 refine aw rfl rfl rfl rfl (bq rfl rfl) ?_
 try dsimp only [St.put]
 refine af rfl rfl rfl rfl (cb rfl rfl rfl (by omega) (bx (by assumption)) (Enc.len _)) ?_
 try dsimp only [St.put]
 refine aw rfl rfl rfl rfl (bq rfl rfl) ?_
 refine af rfl rfl rfl rfl (bn rfl rfl (List.length_map _)) ?_
 refine af rfl rfl rfl rfl (gy rfl rfl rfl (by omega)) ?_
 refine af rfl rfl rfl rfl (bz rfl rfl rfl) ?_
 try dsimp only [St.put]
 refine aw rfl rfl rfl rfl (bq rfl rfl) ?_
 refine iz ?_
 try dsimp only [St.put]
 refine i0 rfl rfl rfl (du rfl rfl rfl (by decide) (by decide) zR (by decide) ⟨zD, ?_⟩)
 try dsimp only [St.put]
 refine gn rfl rfl rfl rfl (ay rfl rfl rfl (nd _ _ [_]) ?_)
 refine ec rfl rfl rfl rfl (dn rfl (by constructor)) ?_
 refine iy ?_
 dsimp only [St.put]
 refine K5 _ ?_
 refine aq ?_
 refine bg rfl (by constructor) zN zS ?_
 exact vb (by unfold fu; rw [hw, ge])
theorem ujp (t : ai) (ht : dr t = true) : Pure Tryd.prog 73 [gp t] (.tup [lst (mh t t.length), .v (.int .i64 (mj t : Int))]) := by
 refine cy Tryd.func73 rfl (fun m => .tup (ca (bp _ _) (ca .v c5))) fun G nx => ?_
 simp only [Tryd.ntmps73, List.length_cons, List.length_nil, Nat.reduceAdd, Nat.reduceSub]
 refine bu fun hlt => ?_
 dsimp only at hlt
 obtain ⟨hl1, hl2, hl3⟩ := l5 ht
 refine yS fun _ K1 => ?_
 refine yR ?_
 try dsimp only [St.put]
 refine yB rfl rfl rfl ?_
 refine yA rfl rfl ?_
 refine yA rfl rfl ?_
 refine yN ?_
 dsimp only [St.put]
 refine K1 _ ?_
 refine yS fun _ K2 => ?_
 refine yR ?_
 refine yA rfl rfl ?_
 refine yN ?_
 dsimp only [St.put]
 refine K2 _ ?_
 refine qo 4 3 1 rfl (by decide) ?_
 dsimp only [List.set_cons_zero, List.set_cons_succ]
 refine yS fun _ K3 => ?_
 refine yR ?_
 refine yA rfl rfl ?_
 refine yN ?_
 dsimp only [St.put]
 refine K3 _ ?_
 refine yS fun _ K4 => ?_
 refine yS fun _ K5 => ?_
 refine yR ?_
 refine yF rfl rfl rfl rfl ?_
 refine yL rfl rfl rfl ?_
 refine aa rfl (bn rfl rfl (List.length_map _)) ?_
 refine yM rfl rfl ?_
 refine yN ?_
 dsimp only [St.put]
 refine K5 _ ?_
 refine bj ?_
 refine cp 12 ?_
 refine zQ ?_
 refine dl (ak G nx (.tip 0 3 1)) zX ?_
 dsimp only
 refine dj (X := Nat) (fun k => k ≤ t.length) (fun k => t.length - k) (fun k => [(4, .list ((mh t k).map cells) (.tip nx)), (5, .v (.int .i64 (fw t k : Int))), (7, .any), (11, .v (.int .i64 (k : Int)))]) (fun k G' => ak G nx (.tip (mh t k).length 3 1)) 0 rfl ?_ ?_ ?_ ?_ ?_ ?_
 ·exact Nat.zero_le _
 ·exact zF
 ·exact zX
 ·rintro k hI
  exact zL
 ·rintro k hI
  exact zH
 rintro k hI
 dsimp only at hI ⊢
 refine yS fun _ K6 => ?_
 refine yR ?_
 refine aa rfl (cn rfl rfl rfl) ?_
 refine yN ?_
 dsimp only [St.put]
 refine K6 _ ?_
 refine yS fun _ K7 => ?_
 refine ar rfl (fun hc => ?_) (fun hc => ?_)
 ·replace hc := of_decide_eq_true hc
  obtain ⟨c, hcx⟩ : ∃ c, t[k]? = some c := dh (by omega)
  have hll := (hl3 c (f4 hcx)).2.1
  have hsl := vh ht k (by omega)
  have hst : ((fw t (k + 1) : Nat) : Int) = (fw t k : Int) + (c.lines.length : Int) := by rw [s9 hcx]; omega
  have hln := ua7 t k
  refine ax ?_
  refine K7 _ ?_
  refine yS fun _ K8 => ?_
  refine bj ?_
  refine yS fun _ K9 => ?_
  refine yR ?_
  refine aa rfl (cb rfl rfl rfl rfl (bx (by assumption)) (Enc.len _)) ?_
  refine yE rfl rfl rfl ?_
  try dsimp only [St.put]
  refine ae rfl (cz rfl ?_)
  try dsimp only [St.put]
  refine ae rfl (co rfl rfl rfl zG rfl rfl (by rfl) ?_)
  refine yN ?_
  dsimp only [St.put]
  refine K9 _ ?_
  refine eu (i := 7) rfl zG zC ?_
  dsimp only
  refine yS fun _ K10 => ?_
  refine yR ?_
  refine yM rfl rfl ?_
  refine yM rfl rfl ?_
  try dsimp only [St.put]
  refine ae rfl (du rfl rfl rfl (by decide) (by decide) zR (by decide) ?_)
  try dsimp only [St.put]
  refine ae rfl (kb ([(fw t k : Int)]) rfl rfl zG zE rfl rfl zA ?_ zA)
  refine yA rfl rfl ?_
  refine yN ?_
  dsimp only [St.put]
  refine K10 _ ?_
  refine yR ?_
  refine yM rfl rfl ?_
  refine yF rfl rfl rfl rfl ?_
  refine yL rfl rfl rfl ?_
  refine aa rfl (bn rfl rfl (List.length_map _)) ?_
  refine aa rfl (cg rfl rfl rfl (by omega)) ?_
  refine yA rfl rfl ?_
  refine yN ?_
  dsimp only [St.put]
  refine K8 _ ?_
  refine yR ?_
  refine aa rfl (cg rfl rfl rfl (by omega)) ?_
  refine yM rfl rfl ?_
  refine yN ?_
  dsimp only [St.put]
  rw [← hst]
  simp only [← uhq]
  exact ⟨k + 1, by omega, by omega, ⟨⟨rfl, rfl⟩, zF, zB, zN, zX⟩⟩
 replace hc := of_decide_eq_false hc
 obtain rfl : k = t.length := by omega
 refine dg ?_
 refine K4 _ ?_
 refine yS fun _ K11 => ?_
 refine yR ?_
 refine yM rfl rfl ?_
 refine yM rfl rfl ?_
 refine yA rfl rfl ?_
 refine yA rfl rfl ?_
 refine yN ?_
 dsimp only [St.put]
 refine K11 _ ?_
 refine aq ?_
 refine ie rfl (ed (by constructor)) (ed (by constructor)) zN zS ?_ ?_
 ·exact zW
 exact Wk.of_eq (vi rfl)
end Go.Proofs.YtbbdginipiljdaaDoor
namespace Go.AB
open Go Go.RowKit Go.ChangeShapes Go.WideShapes
open Go.AB.Enc (cells)
open Go.PB (av ai PlaceD az bf ba)
/-- What is read along a type is a datum. -/
class OpensE (P : Program) (t : TypeId) (α : Type) [Enc α] : Prop where
 n : P.cellsOf t = Enc.n α
 op : ∀ {H : Type} {enc : TypeId × Value → H} {w : World} {base : Nat} {spare : Nat → Bool} {held : Bool} {fuel : Nat} {cs : List Value} {x : DataW H × List MemPlace}, DataW.trod enc P w base spare held fuel t cs = some x → ∃ a : α, Rs (jw w) w (cells a) cs
def ue (P : Program) (t : TypeId) (k : IntKind) : Bool := match P.underlying t with | some (.int k') => k' == k && P.cellsOf t == 1 | _ => false
def ye (P : Program) (t : TypeId) : Bool := match P.underlying t with | some .string => P.cellsOf t == 1 | _ => false
def yh (P : Program) (t e : TypeId) : Bool := match P.underlying t with | some (.slice e') => e' == e && P.cellsOf t == 1 | _ => false
def jn (P : Program) (t : TypeId) (l : List (Nat × TypeId × Nat)) (n : Nat) : Bool := match P.underlying t with
 | some (.struct fs) => (fs.toList.map fun f => (f.offset, f.type, P.cellsOf f.type)) == l && P.cellsOf t == n
 | _ => false
theorem wfI64 {n : Int} (h : (Lit.int .i64 n).wf = true) : okV (.int .i64 n) = true := by
 simp [Lit.wf, IntKind.min, IntKind.max, IntKind.signed, IntKind.bits] at h
 exact jy ⟨by omega, by omega⟩
theorem wfU8 {n : Int} (h : (Lit.int .u8 n).wf = true) : okV (.int .u8 n) = true := by
 simp [Lit.wf, IntKind.min, IntKind.max, IntKind.signed, IntKind.bits] at h
 exact y8 ⟨by omega, by omega⟩
section
variable {P : Program} {t e : TypeId}
theorem zp {k : IntKind} (h : ue P t k = true) : P.underlying t = some (.int k) ∧ P.cellsOf t = 1 := by
 unfold ue at h
 split at h
 ·rename_i k' he
  simp only [Bool.and_eq_true, beq_iff_eq] at h
  rw [he, h.1]; exact ⟨rfl, h.2⟩
 ·cases h
theorem ua5 (h : ye P t = true) : P.underlying t = some .string ∧ P.cellsOf t = 1 := by
 unfold ye at h
 split at h
 ·rename_i he; exact ⟨he, by simpa using h⟩
 ·cases h
theorem ubc (h : yh P t e = true) : P.underlying t = some (.slice e) ∧ P.cellsOf t = 1 := by
 unfold yh at h
 split at h
 ·rename_i k' he
  simp only [Bool.and_eq_true, beq_iff_eq] at h
  rw [he, h.1]; exact ⟨rfl, h.2⟩
 ·cases h
theorem Rs.single {E : Env} {w : World} {c : C} {v : Value} (h : R E w c v) : Rs E w [c] [v] := Rs.cons h Rs.nil
theorem Rs.single_inv {E : Env} {w : World} {c : C} {v : Value} (h : Rs E w [c] [v]) : R E w c v := h.2 0 c v rfl rfl
theorem OpensE.int (h : ue P t .i64 = true) : OpensE P t Int where
 n := (zp h).2
 op hx := by
  obtain ⟨n, rfl, _, h2⟩ := DataW.trod_int (zp h).1 hx
  exact ⟨n, Rs.single (.v (wfI64 h2))⟩
theorem OpensE.str (h : ye P t = true) : OpensE P t ByteArray where
 n := (ua5 h).2
 op hx := by
  obtain ⟨s, rfl, _, h2⟩ := DataW.trod_string (ua5 h).1 hx
  exact ⟨s, Rs.single (.v (okV_str.2 (by simpa [maxLen] using h2)))⟩
theorem uhr {w : World} {a : Addr} {v : Value} (h : w.cell? a = some v) : a.spot = none := by
 unfold World.cell? at h
 split at h
 ·split at h
  ·cases h
  ·rename_i hs
   cases hsp : a.spot with
   | none => rfl
   | some s => simp [hsp] at hs
 ·cases h
theorem udk {α : Type} {p : Nat → α → Prop} : ∀ (n : Nat), (∀ i, i < n → ∃ x, p i x) → ∃ xs : List α, xs.length = n ∧ ∀ i x, xs[i]? = some x → p i x
 | 0, _ => ⟨[], rfl, fun i x h => by simp at h⟩
 | n + 1, h => by
  obtain ⟨xs, h1, h2⟩ := udk n fun i hi => h i (by omega)
  obtain ⟨y, hy⟩ := h n (by omega)
  refine ⟨xs ++ [y], by simp [h1], fun i x hx => ?_⟩
  by_cases hi : i < xs.length
  ·rw [List.getElem?_append_left hi] at hx; exact h2 i x hx
  ·rw [List.getElem?_append_right (by omega)] at hx
   have hz : i - xs.length = 0 := by
    have := (List.getElem?_eq_some_iff.1 hx).1
    simp at this; omega
   rw [hz] at hx
   simp at hx
   subst hx
   rw [show i = n by omega]; exact hy
theorem ubq {α : Type} [Enc α] {E : Env} {w : World} {b : Nat} : ∀ (xs : List α) (off : Nat), (∀ i x, xs[i]? = some x → ∃ es, Rs E w (cells x) es ∧ ∀ j e, es[j]? = some e → w.cell? ⟨b, off + i * Enc.n α + j, none⟩ = some e) →
  ∃ us, Rs E w (xs.map cells).flatten us ∧ ∀ j u, us[j]? = some u → w.cell? ⟨b, off + j, none⟩ = some u
 | [], off, _ => ⟨[], Rs.nil, by simp⟩
 | x :: xs, off, h => by
  obtain ⟨es, h1, h2⟩ := h 0 x rfl
  obtain ⟨us, h3, h4⟩ := ubq xs (off + Enc.n α) fun i y hy => by
   obtain ⟨fs, k1, k2⟩ := h (i + 1) y (by simpa using hy)
   exact ⟨fs, k1, fun j e he => by rw [← k2 j e he]; congr 2; rw [Nat.add_mul]; omega⟩
  have hl : es.length = Enc.n α := by rw [h1.1]; exact Enc.len x
  refine ⟨es ++ us, by rw [List.map_cons, List.flatten_cons]; exact h1.append h3, fun j u hu => ?_⟩
  by_cases hj : j < es.length
  ·rw [List.getElem?_append_left hj] at hu
   rw [← h2 j u hu]; congr 2; omega
  ·rw [List.getElem?_append_right (by omega)] at hu
   rw [← h4 _ u hu]; congr 2; omega
theorem OpensE.slice {α : Type} [Enc α] [o : OpensE P e α] (h : yh P t e = true) (hpos : 1 ≤ Enc.n α) : OpensE P t (List α) where
 n := (ubc h).2
 op {H enc w base spare held fuel cs x} hx := by
  rcases Deep.open_slice (ubc h).1 hx with ⟨rfl, _⟩ | ⟨a, len, cap, m, n, D, Pl, rfl, hb, hl, hm, hmm, _, hel⟩
  ·refine ⟨[], Rs.single ?_⟩
   exact R.mk_list (rows := []) (sz := 1) (us := []) (Nat.le_refl _) (Nat.zero_le _) (Nat.le_refl _) (by simp) (by simp) Rs.nil (.inl rfl) (by simp) (by simp) (by simp)
  ·have hlm : len ≤ m := by rw [hmm]; split <;> omega
   have hs : 0 < len → a.spot = none := fun h0 => by
    obtain ⟨cs', hc, ht⟩ := hel 0 (by omega)
    obtain ⟨_, hlen, hcell⟩ := World.cells?_some hc
    rw [o.n] at hlen hcell
    have := hcell 0 (by omega)
    rw [List.getElem?_eq_getElem (by omega)] at this
    have := uhr this
    simpa [Addr.add] using this
   obtain ⟨xs, h1, h2⟩ := udk (p := fun i (y : α) => ∃ es, Rs (jw w) w (cells y) es ∧ ∀ j e, es[j]? = some e → w.cell? ⟨a.block, a.off + i * Enc.n α + j, none⟩ = some e) len fun i hi => by
    obtain ⟨cs', hc, ht⟩ := hel i (by omega)
    obtain ⟨y, hy⟩ := o.op ht
    obtain ⟨_, hlen, hcell⟩ := World.cells?_some hc
    rw [o.n] at hlen hcell hc
    have hs' := hs (by omega)
    refine ⟨y, cs', hy, fun j u hj => ?_⟩
    have hj' : j < Enc.n α := by rw [← hlen]; exact (List.getElem?_eq_some_iff.1 hj).1
    have := hcell j hj'
    rw [hj] at this
    rw [← this]
    obtain ⟨ab, ao, asp⟩ := a
    dsimp only at hs'
    subst hs'
    rw [qs, qs]
   subst h1
   refine ⟨xs, Rs.single ?_⟩
   obtain ⟨us, k1, k2⟩ := ubq (E := jw w) (w := w) (b := a.block) xs a.off h2
   have := R.mk_list (E := jw w) (w := w) (rows := xs.map cells) (a := some a) (cap := cap) (sz := Enc.n α) (us := us) (tok := .none) (by simpa using hl) hm hpos (mc xs) (fun r hr c hc => by
    obtain ⟨x, _, rfl⟩ := List.mem_map.1 hr
    exact Enc.one x c hc) k1 (by
    by_cases hxs : xs = []
    ·subst hxs; exact .inl rfl
    ·right
     have hs' := hs (List.length_pos_iff.2 hxs)
     obtain ⟨ab, ao, asp⟩ := a
     dsimp only at hs'
     subst hs'
     refine ⟨ab, ao, rfl, ?_, k2⟩
     have h0 : 0 < us.length := by
      rw [k1.1, nv (mc xs), List.length_map]
      exact Nat.mul_pos (List.length_pos_iff.2 hxs) hpos
     have := ue7 (k2 (us.length - 1) _ (List.getElem?_eq_getElem (by omega)))
     dsimp only at this
     show ao + us.length ≤ ql w ab
     omega) (by simp) (by simp) (by simp)
   rw [List.length_map] at this
   exact this
theorem ua6 {l : List (Nat × TypeId × Nat)} {n : Nat} (h : jn P t l n = true) {H : Type} {enc : TypeId × Value → H} {w : World} {base : Nat} {spare : Nat → Bool} {held : Bool} {fuel : Nat} {cs : List Value} {x : DataW H × List MemPlace}
  (hx : DataW.trod enc P w base spare held fuel t cs = some x) : cs.length = n ∧ ∀ p ∈ l, ∃ m y, DataW.trod enc P w base spare held m p.2.1 ((cs.drop p.1).take p.2.2) = some y := by
 unfold jn at h
 split at h
 ·rename_i fs he
  simp only [Bool.and_eq_true, beq_iff_eq] at h
  obtain ⟨xs, m, _, _, hl, hlen, hf⟩ := DataW.trod_struct he hx
  refine ⟨by rw [hl, h.2], fun p hp => ?_⟩
  rw [← h.1] at hp
  obtain ⟨f, hfm, rfl⟩ := List.mem_map.1 hp
  obtain ⟨i, hi⟩ := List.getElem?_of_mem hfm
  have hi' : fs[i]? = some f := by simpa using hi
  have hlt : i < xs.length := by rw [hlen]; exact (Array.getElem?_eq_some_iff.1 hi').1
  exact ⟨m, xs[i], by rw [← List.getElem?_eq_getElem hlt]; exact hf i f hi'⟩
 ·cases h
theorem vg {l : List (Nat × TypeId × Nat)} {n : Nat} (h : jn P t l n = true) : P.cellsOf t = n ∧ ∃ fs, P.underlying t = some (.struct fs) := by
 unfold jn at h
 split at h
 ·rename_i fs he
  simp only [Bool.and_eq_true, beq_iff_eq] at h
  exact ⟨h.2, fs, he⟩
 ·cases h
/-- A struct of one field. -/
theorem OpensE.one {α : Type} [Enc α] [o : OpensE P e α] (h : jn P t [(0, e, Enc.n α)] (Enc.n α) = true) : OpensE P t α where
 n := (vg h).1
 op {H enc w base spare held fuel cs x} hx := by
  obtain ⟨hl, hp⟩ := ua6 h hx
  obtain ⟨m, y, hy⟩ := hp _ (List.mem_cons_self ..)
  obtain ⟨a, ha⟩ := o.op hy
  dsimp only at ha
  rw [List.drop_zero, List.take_of_length_le (by omega)] at ha
  exact ⟨a, ha⟩
/-- A struct, field by field. -/
theorem OpensE.struct {α : Type} [Enc α] {l : List (Nat × TypeId × Nat)} (h : jn P t l (Enc.n α) = true)
  (b : ∀ (w : World) (cs : List Value), cs.length = Enc.n α → (∀ p ∈ l, ∀ (β : Type) (_ : Enc β), OpensE P p.2.1 β → ∃ a : β, Rs (jw w) w (cells a) ((cs.drop p.1).take p.2.2)) → ∃ a : α, Rs (jw w) w (cells a) cs) : OpensE P t α where
 n := (vg h).1
 op {H enc w base spare held fuel cs x} hx := by
  obtain ⟨hl, hp⟩ := ua6 h hx
  exact b w cs hl fun p hpl β _ o => let ⟨_, _, hy⟩ := hp p hpl; o.op hy
theorem OpensE.chap {tI tL : TypeId} [oI : OpensE P tI Int] [oL : OpensE P tL (List (List ByteArray))] (h : jn P t [(0, tI, 1), (1, tL, 1)] 2 = true) : OpensE P t av :=
 .struct (α := av) h fun w cs hl hp => by
  obtain ⟨a, ha⟩ := hp (0, tI, 1) (by simp) Int inferInstance oI
  obtain ⟨b, hb⟩ := hp (1, tL, 1) (by simp) (List (List ByteArray)) inferInstance oL
  match cs, hl with
  | [u, v], _ => exact ⟨⟨a, b⟩, Rs.cons (Rs.single_inv ha) hb⟩
theorem OpensE.place {tI : TypeId} [oI : OpensE P tI Int] (h : jn P t [(0, tI, 1), (1, tI, 1), (2, tI, 1)] 3 = true) : OpensE P t PlaceD :=
 .struct (α := PlaceD) h fun w cs hl hp => by
  obtain ⟨a, ha⟩ := hp (0, tI, 1) (by simp) Int inferInstance oI
  obtain ⟨b, hb⟩ := hp (1, tI, 1) (by simp) Int inferInstance oI
  obtain ⟨c, hc⟩ := hp (2, tI, 1) (by simp) Int inferInstance oI
  match cs, hl with
  | [u, v, x], _ => exact ⟨⟨a, b, c⟩, Rs.cons (Rs.single_inv ha) (Rs.cons (Rs.single_inv hb) hc)⟩
/-- An argument that is a struct; a number. -/
theorem OpensE.arg {α : Type} [Enc α] [o : OpensE P t α] {l : List (Nat × TypeId × Nat)} {n : Nat} (h : jn P t l n = true) {H : Type} {enc : TypeId × Value → H} {w : World} {base : Nat} {spare : Nat → Bool} {held : Bool} {r : Reach} {b0 : Nat} {v : Value} {d : DataW H} {ps : List MemPlace}
  (hv : Value.okWide P w r b0 t v) (hd : DataW.Trod enc P w base spare held t v d ps) : ∃ a : α, R (jw w) w (.agg (cells a)) v := by
 obtain ⟨fs, hs⟩ := (vg h).2
 obtain ⟨cs, rfl, _⟩ := okWide_struct hs hv
 obtain ⟨fuel, hf⟩ := hd
 obtain ⟨a, ha⟩ := o.op hf
 exact ⟨a, by simpa [Value.cells] using Rs.agg ha (Enc.one a)⟩
end
theorem ull {P : Program} {f : FuncId} {cs : List C} {v fv : Value} {fc : C} (hp : PureF (.fact fv fc) P f cs (.v v)) {w : World} {args : List Value} (hF : R (jw w) w fc fv) (hr : Rs (jw w) w cs args) :
  Calls P f args.toArray w fun e w' => e = .returned v ∧ Below w.heap.size w w' := by
 obtain ⟨E1, v1, g1⟩ := uef (un2 w) hF
 refine (hp _ _ (jo _ _ _) E1 w args (hr.ev v1) g1).mono ?_
 rintro e w' ⟨r, x, E', G', nx', rfl, hev, hx, _, rfl, _⟩
 exact ⟨by rw [hx.v_inv], by have := hev.below; rw [v1.B] at this; exact this⟩
end Go.AB
namespace Go.AB
open Go Go.RowKit Go.ChangeShapes Go.WideShapes
open Go.AB.Enc (cells)
variable {P : Program} {o : Oper} {st : St}
theorem n_rem {xt yt : TypeId} {x y : Operand} {m n : Int} (ho : o.op = .binOp .rem xt x y yt) (hx : evC st x = .v (.int .i64 m)) (hy : evC st y = .v (.int .i64 n)) (hm : 0 ≤ m ∧ m ≤ 9223372036854775807) (hn : 0 < n) : NStep P o st (.v (.int .i64 (m % n))) :=
 kp ho hx hy (jy (by have h1 := Int.emod_nonneg m (b := n) (by omega); have h2 := Int.mul_ediv_add_emod m n; have h3 := Int.mul_nonneg (Int.le_of_lt hn) (Int.ediv_nonneg hm.1 (Int.le_of_lt hn)); omega)) fun w => by
  have h1 : ¬ n = 0 := by omega
  have h2 : m.tmod n = m % n := Int.tmod_eq_emod_of_nonneg hm.1
  simp [eqGuard, binOp, Op.intDiv, h1, h2]
theorem uc5 {s d : TypeId} {x : Operand} {k : IntKind} {n : Int} (ho : o.op = .convert s d x) (hx : evC st x = .v (.int k n)) (hs : (P.underlying s).isSome = true) (hd : P.underlying d = some (.int .i64)) (hn : -9223372036854775808 ≤ n ∧ n ≤ 9223372036854775807) : NStep P o st (.v (.int .i64 n)) := fun E w a h => by
 have e1 := (hx ▸ h.ev x).v_inv
 refine ⟨_, .v (jy hn), fun w' => ?_⟩
 have hk : P.intKind d = .i64 := by simp [Program.intKind, hd]
 have hw : IntKind.i64.wrap n = n := by rw [IntKind.wrap_i64]; omega
 have := run_convert_int (P := P) w' s d k n hs (by rw [hk]; exact hd)
 rw [hk, hw] at this
 simp [execOp, ho, e1, this]
theorem OpensE.argU8 {t : TypeId} (h : ue P t .u8 = true) {H : Type} {enc : TypeId × Value → H} {w : World} {base : Nat} {spare : Nat → Bool} {held : Bool} {r : Reach} {b0 : Nat} {v : Value} {d : DataW H} {ps : List MemPlace}
  (hv : Value.okWide P w r b0 t v) (hd : DataW.Trod enc P w base spare held t v d ps) : ∃ a : Int, R (jw w) w (.v (.int .u8 a)) v := by
 obtain ⟨i, rfl, _, _, wi⟩ := open_int (zp h).1 hv hd
 exact ⟨i, .v (wfU8 wi)⟩
theorem uax {n : Int} (h : (C.v (.int .u8 n)).fit) : 0 ≤ n ∧ n ≤ 255 := (okV_int.1 (fit_v.1 h) : _)
end Go.AB
namespace Go.AB
open Go Go.RowKit
open Go.AB.Enc (cells)
variable {P : Program} {o : Oper} {st : St}
theorem zg {xt yt : TypeId} {x y : Operand} {m n : Int} (ho : o.op = .binOp .mul xt x y yt) (hx : evC st x = .v (.int .i64 m)) (hy : evC st y = .v (.int .i64 n)) (hb : -9223372036854775808 ≤ m * n ∧ m * n ≤ 9223372036854775807) : NStep P o st (.v (.int .i64 (m * n))) :=
 kp ho hx hy (jy hb) fun w => by
  have : IntKind.i64.wrap (m * n) = m * n := by rw [IntKind.wrap_i64]; omega
  simp [eqGuard, binOp, Op.intArith, this]
theorem zf {xt yt : TypeId} {x y : Operand} {m n : Int} (ho : o.op = .binOp .quo xt x y yt) (hx : evC st x = .v (.int .i64 m)) (hy : evC st y = .v (.int .i64 n)) (hm : 0 ≤ m ∧ m ≤ 9223372036854775807) (hn : 0 < n) : NStep P o st (.v (.int .i64 (m / n))) := by
 have h3 : 0 ≤ m / n := Int.ediv_nonneg hm.1 (by omega)
 have h4 : m / n ≤ m := Int.ediv_le_self _ hm.1
 exact kp ho hx hy (jy (by omega)) fun w => by
  have h1 : ¬ n = 0 := by omega
  have h2 : m.tdiv n = m / n := Int.tdiv_eq_ediv_of_nonneg hm.1
  have h5 : IntKind.i64.wrap (m / n) = m / n := by rw [IntKind.wrap_i64]; omega
  simp [eqGuard, binOp, Op.intDiv, h1, h2, h5]
theorem ug5 {n : Nat} (h : n ≤ 62) : (2 : Int) ^ n ≤ 4611686018427387904 := by
 have : 2 ^ n ≤ 2 ^ 62 := Nat.pow_le_pow_right (by omega) h
 have h2 : ((2 ^ n : Nat) : Int) = (2 : Int) ^ n := by norm_cast
 rw [← h2]
 have h3 : (2 : Nat) ^ 62 = 4611686018427387904 := by decide
 omega
/-- one, shifted -/
theorem ucw {xt yt : TypeId} {x y : Operand} {n : Nat} (ho : o.op = .binOp .shl xt x y yt) (hx : evC st x = .v (.int .i64 1)) (hy : evC st y = .v (.int .i64 (n : Int))) (hn : n ≤ 62) : NStep P o st (.v (.int .i64 ((2 ^ n : Nat) : Int))) := by
 have h0 := ug5 hn
 have h2 : ((2 ^ n : Nat) : Int) = (2 : Int) ^ n := by norm_cast
 have h1 : 0 ≤ ((2 ^ n : Nat) : Int) := Int.natCast_nonneg _
 exact kp ho hx hy (jy (by omega)) fun w => by
  have e1 : ¬ ((n : Int) < 0) := by omega
  have e2 : min (n : Int).toNat IntKind.i64.bits = n := by rw [Int.toNat_natCast]; show min n 64 = n; omega
  have e3 : IntKind.i64.wrap (1 * 2 ^ n) = ((2 ^ n : Nat) : Int) := by rw [Int.one_mul, ← h2, IntKind.wrap_i64]; omega
  simp only [eqGuard, binOp, Op.shift, e1, if_false, e2, e3]
  rfl
/-- a number that is not below 0, shifted back -/
theorem ze {xt yt : TypeId} {x y : Operand} {k : IntKind} {m n : Nat} (ho : o.op = .binOp .shr xt x y yt) (hx : evC st x = .v (.int k (m : Int))) (hy : evC st y = .v (.int .i64 (n : Int))) (hn : n ≤ k.bits) (hm : (m : Int) ≤ hiK k) (hk : loK k ≤ 0) : NStep P o st (.v (.int k ((m / 2 ^ n : Nat) : Int))) := by
 have h4 : m / 2 ^ n ≤ m := Nat.div_le_self _ _
 exact n_int' ho hx hy (okV_int.2 (by obtain ⟨q, hq⟩ : ∃ q, m / 2 ^ n = q := ⟨_, rfl⟩; rw [hq] at h4 ⊢; omega)) fun w => by
  have e1 : ¬ ((n : Int) < 0) := by omega
  have e2 : min (n : Int).toNat k.bits = n := by rw [Int.toNat_natCast]; omega
  have e3 : (m : Int).fdiv (2 ^ n) = ((m / 2 ^ n : Nat) : Int) := by
   have h2 : ((2 ^ n : Nat) : Int) = (2 : Int) ^ n := by norm_cast
   rw [← h2, Int.fdiv_eq_ediv_of_nonneg _ (Int.natCast_nonneg _)]
   norm_cast
  simp only [eqGuard, binOp, Op.shift, e1, if_false, e2, e3]
  rfl
where
 n_int' {op : BinOp} {xt yt : TypeId} {x y : Operand} {k k' : IntKind} {m n : Int} {r : Value} (ho : o.op = .binOp op xt x y yt) (hx : evC st x = .v (.int k m)) (hy : evC st y = .v (.int k' n))
  (h1 : okV r = true) (h : ∀ w, (do eqGuard op xt x y (.int k m) (.int k' n); binOp op xt (.int k m) (.int k' n)).run P w = .ok r w) : NStep P o st (.v r) := fun E w a hs => by
  have e1 := (hx ▸ hs.ev x).v_inv
  have e2 := (hy ▸ hs.ev y).v_inv
  refine ⟨r, .v h1, fun w' => ?_⟩
  have := h w'
  simp only [execOp, ho, e1, e2, Sem.run_bind] at this ⊢
  rw [this]
  rfl
/-- the last bit -/
theorem zh {xt yt : TypeId} {x y : Operand} {k : IntKind} {m : Nat} (ho : o.op = .binOp .and xt x y yt) (hx : evC st x = .v (.int k (m : Int))) (hy : evC st y = .v (.int k 1)) (hm : m < 2 ^ k.bits) (hb : 2 ≤ k.bits) : NStep P o st (.v (.int k ((m % 2 : Nat) : Int))) := by
 have h2 : m % 2 < 2 := Nat.mod_lt _ (by omega)
 exact kp ho hx hy (okV_int.2 (by cases k <;> simp only [loK, hiK] <;> omega)) fun w => by
  have e1 : (BitVec.ofInt k.bits (m : Int) &&& BitVec.ofInt k.bits 1).toNat = m % 2 := by
   have q1 : (BitVec.ofInt k.bits (m : Int)).toNat = m := by
    rw [show BitVec.ofInt k.bits (m : Int) = BitVec.ofNat k.bits m from BitVec.ofInt_natCast .., BitVec.toNat_ofNat, Nat.mod_eq_of_lt hm]
   have q2 : (BitVec.ofInt k.bits 1).toNat = 1 := by
    rw [show BitVec.ofInt k.bits 1 = BitVec.ofNat k.bits 1 from BitVec.ofInt_natCast k.bits 1, BitVec.toNat_ofNat, Nat.mod_eq_of_lt]
    exact Nat.one_lt_two_pow (by omega)
   rw [BitVec.toNat_and, q1, q2, Nat.and_one_is_mod]
  have e2 : k.wrap ((m % 2 : Nat) : Int) = ((m % 2 : Nat) : Int) := by
   have : m % 2 = 0 ∨ m % 2 = 1 := by omega
   rcases this with h | h <;> rw [h] <;> cases k <;> decide
  simp only [eqGuard, binOp, Op.intBits, e1, e2]
  simp
end Go.AB
namespace Go.AB
open Go Go.RowKit
open Go.AB.Enc (cells)
open Go.PB (av ai PlaceD az bf ba bh am ah ck bk c4 c6)
theorem uba {t : ai} (ht : dr t = true) (k : Nat) : fw t k ≤ 60 := by
 obtain ⟨_, h2, h3⟩ := l5 ht
 have key : ∀ j, j ≤ t.length → fw t j ≤ j * 10 := by
  intro j
  induction j with
  | zero => intro _; rw [ua9]; exact Nat.zero_le _
  | succ j ih =>
   intro hj
   have hc : t[j]? = some t[j] := List.getElem?_eq_getElem (by omega)
   rw [s9 hc]
   have := (h3 _ (List.mem_of_getElem? hc)).2.1
   have := ih (by omega)
   omega
 by_cases q : k ≤ t.length
 ·have := key k q; omega
 have h1 := key t.length (Nat.le_refl _)
 have e : fw t k = fw t t.length := by
  unfold fw
  rw [List.take_of_length_le (show t.length ≤ k by omega), List.take_of_length_le (Nat.le_refl _)]
 omega
instance decLtW : ∀ a b : List Int, Decidable (ltW a b)
 | [], _ => isFalse (by simp [ltW])
 | _ :: _, [] => isFalse (by simp [ltW])
 | x :: a, y :: b => by
  have := decLtW a b
  unfold ltW
  exact inferInstance
end Go.AB
namespace Go.Proofs.YtbbdginipiljdaaDoor
set_option maxRecDepth 10000
open Go.RowKit Go.AB
open Go.AB.Enc (cells)
open Go.PB (av ai PlaceD az bf ba bh am ah ck bk c4 c6)
theorem rf (n lo hi : Int) : Pure Tryd.prog 50 [.v (.int .i64 n), .v (.int .i64 lo), .v (.int .i64 hi)] (.v (.bool (inB n lo hi))) := by
 refine cy Tryd.func50 rfl (fun m => .v) fun G nx => ?_
 simp only [Tryd.ntmps50, List.length_cons, List.length_nil, Nat.reduceAdd, Nat.reduceSub]
 refine bu fun hlt => ?_
 dsimp only at hlt
 refine yS fun _ K1 => ?_
 refine yR ?_
 refine yA rfl rfl ?_
 refine yN ?_
 dsimp only [St.put]
 refine K1 _ ?_
 refine yS fun _ K2 => ?_
 refine yR ?_
 refine yM rfl rfl ?_
 refine yM rfl rfl ?_
 refine aa rfl (ou rfl rfl rfl) ?_
 refine et (fun hs => ?_) (fun hs => ?_)
 ·try replace hs := of_decide_eq_true hs
  refine yM rfl rfl ?_
  refine yM rfl rfl ?_
  refine yM rfl rfl ?_
  refine aa rfl (tw rfl rfl rfl) ?_
  refine aa rfl (bw rfl rfl (by constructor)) ?_
  refine yA rfl rfl ?_
  refine yN ?_
  dsimp only [St.put]
  refine K2 _ ?_
  refine aq ?_
  refine bg rfl (by constructor) zN zS ?_
  exact vb (by simp [inB, hs]; try omega)
 try replace hs := of_decide_eq_false hs
 refine yM rfl rfl ?_
 refine yK rfl ?_
 refine yK rfl ?_
 refine yK rfl ?_
 refine aa rfl (cm rfl rfl (by constructor)) ?_
 refine yA rfl rfl ?_
 refine yN ?_
 dsimp only [St.put]
 refine K2 _ ?_
 refine aq ?_
 refine bg rfl (by constructor) zN zS ?_
 exact vb (by simp [inB, hs]; try omega)
theorem ui2 (t : ai) (ht : dr t = true) : Pure Tryd.prog 78 [gp t] (.v (.int .i64 (mj t : Int))) := by
 refine cy Tryd.func78 rfl (fun m => .v) fun G nx => ?_
 simp only [Tryd.ntmps78, List.length_cons, List.length_nil, Nat.reduceAdd, Nat.reduceSub]
 refine bu fun hlt => ?_
 dsimp only at hlt
 obtain ⟨hl1, hl2, hl3⟩ := l5 ht
 refine yS fun _ K1 => ?_
 refine yR ?_
 try dsimp only [St.put]
 refine yB rfl rfl rfl ?_
 refine yA rfl rfl ?_
 refine yN ?_
 dsimp only [St.put]
 refine K1 _ ?_
 refine yS fun _ K2 => ?_
 refine yR ?_
 refine yA rfl rfl ?_
 refine yN ?_
 dsimp only [St.put]
 refine K2 _ ?_
 refine yS fun _ K3 => ?_
 refine yS fun _ K4 => ?_
 refine yR ?_
 refine yA rfl rfl ?_
 refine yN ?_
 dsimp only [St.put]
 refine K4 _ ?_
 refine bj ?_
 refine cp 5 ?_
 refine zQ ?_
 refine dl (G) zX ?_
 dsimp only
 refine dj (X := Nat) (fun k => k ≤ t.length) (fun k => t.length - k) (fun k => [(3, .v (.int .i64 ((fw t k : Nat) : Int))), (4, .v (.int .i64 (k : Int)))]) (fun k G' => G') 0 rfl ?_ ?_ (fun _ _ h => h) ?_ ?_ ?_
 ·exact Nat.zero_le _
 ·exact zF
 ·rintro k hI
  exact zL
 ·exact fun _ _ _ _ h => .inl h
 rintro k hI
 dsimp only at hI ⊢
 refine yS fun _ K5 => ?_
 refine yS fun _ K6 => ?_
 refine yR ?_
 refine yM rfl rfl ?_
 refine yF rfl rfl rfl rfl ?_
 refine yL rfl rfl rfl ?_
 refine aa rfl (bn rfl rfl (List.length_map _)) ?_
 refine aa rfl (cn rfl rfl rfl) ?_
 refine yN ?_
 dsimp only [St.put]
 refine K6 _ ?_
 refine ar rfl (fun hc => ?_) (fun hc => ?_)
 ·replace hc := of_decide_eq_true hc
  obtain ⟨c, hk⟩ : ∃ x, t[k]? = some x := dh (by omega)
  have hcl := hl3 c (f4 hk)
  have hst := uba ht k
  refine ax ?_
  refine K5 _ ?_
  refine yS fun _ K7 => ?_
  refine bj ?_
  refine yR ?_
  refine yM rfl rfl ?_
  refine yF rfl rfl rfl rfl ?_
  refine yL rfl rfl rfl ?_
  refine yM rfl rfl ?_
  refine aa rfl (cb rfl rfl rfl rfl (bx (by assumption)) (Enc.len _)) ?_
  refine yF rfl rfl rfl rfl ?_
  refine yL rfl rfl rfl ?_
  refine aa rfl (bn rfl rfl (List.length_map _)) ?_
  refine aa rfl (cg rfl rfl rfl (by omega)) ?_
  refine yA rfl rfl ?_
  refine yN ?_
  dsimp only [St.put]
  refine K7 _ ?_
  refine yR ?_
  refine yM rfl rfl ?_
  refine aa rfl (cg rfl rfl rfl (by omega)) ?_
  refine yA rfl rfl ?_
  refine yN ?_
  dsimp only [St.put]
  have e := s9 hk
  rw [show ((fw t k : Nat) : Int) + (c.lines.length : Int) = ((fw t (k + 1) : Nat) : Int) by rw [e]; rfl]
  exact ⟨k + 1, by omega, by omega, ⟨⟨rfl, rfl⟩, zF, zB, zN, zX⟩⟩
 replace hc := of_decide_eq_false hc
 obtain rfl : k = t.length := by omega
 refine dg ?_
 refine K3 _ ?_
 refine yS fun _ K8 => ?_
 refine yR ?_
 refine yM rfl rfl ?_
 refine yA rfl rfl ?_
 refine yN ?_
 dsimp only [St.put]
 refine K8 _ ?_
 refine aq ?_
 refine bg rfl (by constructor) zN zS ?_
 rfl
theorem ub0 (t : ai) (q : PlaceD) (ht : dr t = true) (hq : fu t q = true) : Pure Tryd.prog 70 [gp t, val q] (.v (.int .i64 (qi t q))) := by
 refine cy Tryd.func70 rfl (fun m => .v) fun G nx => ?_
 simp only [Tryd.ntmps70, List.length_cons, List.length_nil, Nat.reduceAdd, Nat.reduceSub]
 refine bu fun hlt => ?_
 dsimp only at hlt
 obtain ⟨hl1, hl2, hl3⟩ := l5 ht
 obtain ⟨kc, kn, kw, c0, l0, hqe, hkc, hkn, _⟩ := ub7 hq
 have hkcl := (List.getElem?_eq_some_iff.1 hkc).1
 have hknl := (List.getElem?_eq_some_iff.1 hkn).1
 have hc0 := (hl3 c0 (f4 hkc)).2.1
 subst hqe
 refine yS fun _ K1 => ?_
 refine yR ?_
 try dsimp only [St.put]
 refine yB rfl rfl rfl ?_
 try dsimp only [St.put]
 refine yB rfl rfl rfl ?_
 refine yA rfl rfl ?_
 refine yN ?_
 dsimp only [St.put]
 refine K1 _ ?_
 refine yS fun _ K2 => ?_
 refine yR ?_
 refine yF rfl rfl rfl rfl ?_
 refine yL rfl rfl rfl ?_
 refine yA rfl rfl ?_
 refine yN ?_
 dsimp only [St.put]
 refine K2 _ ?_
 refine yS fun _ K3 => ?_
 refine yS fun _ K4 => ?_
 refine yR ?_
 refine yA rfl rfl ?_
 refine yN ?_
 dsimp only [St.put]
 refine K4 _ ?_
 refine bj ?_
 refine cp 7 ?_
 refine zQ ?_
 refine dl (G) zX ?_
 dsimp only
 refine dj (X := Nat) (fun k => k ≤ kc) (fun k => kc - k) (fun k => [(5, .v (.int .i64 ((kn : Int) + ((fw t k : Nat) : Int)))), (6, .v (.int .i64 (k : Int)))]) (fun k G' => G') 0 rfl ?_ ?_ (fun _ _ h => h) ?_ ?_ ?_
 ·exact Nat.zero_le _
 ·exact zF
 ·rintro k hI
  exact zL
 ·exact fun _ _ _ _ h => .inl h
 rintro k hI
 dsimp only at hI ⊢
 refine yS fun _ K5 => ?_
 refine yS fun _ K6 => ?_
 refine yR ?_
 refine yM rfl rfl ?_
 refine yF rfl rfl rfl rfl ?_
 refine yL rfl rfl rfl ?_
 refine aa rfl (cn rfl rfl rfl) ?_
 refine yN ?_
 dsimp only [St.put]
 refine K6 _ ?_
 refine ar rfl (fun hc => ?_) (fun hc => ?_)
 ·replace hc := of_decide_eq_true hc
  obtain ⟨c, hk⟩ : ∃ x, t[k]? = some x := dh (by omega)
  have hcl := hl3 c (f4 hk)
  have hst := uba ht k
  refine ax ?_
  refine K5 _ ?_
  refine yS fun _ K7 => ?_
  refine bj ?_
  refine yR ?_
  refine yM rfl rfl ?_
  refine yF rfl rfl rfl rfl ?_
  refine yL rfl rfl rfl ?_
  refine yM rfl rfl ?_
  refine aa rfl (cb rfl rfl rfl rfl (bx (by assumption)) (Enc.len _)) ?_
  refine yF rfl rfl rfl rfl ?_
  refine yL rfl rfl rfl ?_
  refine aa rfl (bn rfl rfl (List.length_map _)) ?_
  refine aa rfl (cg rfl rfl rfl (by omega)) ?_
  refine yA rfl rfl ?_
  refine yN ?_
  dsimp only [St.put]
  refine K7 _ ?_
  refine yR ?_
  refine yM rfl rfl ?_
  refine aa rfl (cg rfl rfl rfl (by omega)) ?_
  refine yA rfl rfl ?_
  refine yN ?_
  dsimp only [St.put]
  have e := s9 hk
  rw [show (kn : Int) + ((fw t k : Nat) : Int) + (c.lines.length : Int) = (kn : Int) + ((fw t (k + 1) : Nat) : Int) by rw [e, Int.natCast_add]; omega]
  exact ⟨k + 1, by omega, by omega, ⟨⟨rfl, rfl⟩, zF, zB, zN, zX⟩⟩
 replace hc := of_decide_eq_false hc
 obtain rfl : k = kc := by omega
 refine dg ?_
 refine K3 _ ?_
 refine yS fun _ K8 => ?_
 refine yR ?_
 refine yM rfl rfl ?_
 refine yA rfl rfl ?_
 refine yN ?_
 dsimp only [St.put]
 refine K8 _ ?_
 refine aq ?_
 refine bg rfl (by constructor) zN zS ?_
 exact vi (by unfold qi; rw [Int.toNat_natCast])
theorem ubz (a b : List Int) (ha : a.length ≤ 1000) : Pure Tryd.prog 28 [lst a, lst b] (.v (.bool (decide (a = b)))) := by
 refine cy Tryd.func28 rfl (fun m => .v) fun G nx => ?_
 simp only [Tryd.ntmps28, List.length_cons, List.length_nil, Nat.reduceAdd, Nat.reduceSub]
 refine bu fun hlt => ?_
 dsimp only at hlt
 refine kf 1 (fun hfb => ?_)
 have hb := (fit_lst.1 hfb).1
 refine yS fun _ K1 => ?_
 refine yR ?_
 refine yA rfl rfl ?_
 refine yN ?_
 dsimp only [St.put]
 refine K1 _ ?_
 refine yS fun _ K2 => ?_
 refine yS fun _ K3 => ?_
 refine yR ?_
 refine yM rfl rfl ?_
 refine aa rfl (bn rfl rfl (List.length_map _)) ?_
 refine yM rfl rfl ?_
 refine aa rfl (bn rfl rfl (List.length_map _)) ?_
 refine aa rfl (ez rfl rfl rfl) ?_
 refine yN ?_
 dsimp only [St.put]
 refine K3 _ ?_
 refine ar rfl (fun hc => ?_) (fun hc => ?_)
 ·try replace hc := of_decide_eq_true hc
  refine yS fun _ K4 => ?_
  refine yR ?_
  refine yA rfl rfl ?_
  refine yN ?_
  dsimp only [St.put]
  refine K4 _ ?_
  refine aq ?_
  refine bg rfl (by constructor) zN zS ?_
  exact vb (by
   have : a ≠ b := fun e => by subst e; simp at hc
   simp [this])
 have hl : a.length = b.length := by
  have := il hc
  omega
 refine ax ?_
 refine K2 _ ?_
 refine yS fun _ K5 => ?_
 refine yS fun _ K6 => ?_
 refine yR ?_
 refine yA rfl rfl ?_
 refine yN ?_
 dsimp only [St.put]
 refine K6 _ ?_
 refine bj ?_
 refine cp 6 ?_
 refine zQ ?_
 refine dl (G) zX ?_
 dsimp only
 refine dj (X := Nat) (fun k => k ≤ a.length ∧ a.take k = b.take k) (fun k => a.length - k) (fun k => [(5, .v (.int .i64 (k : Int)))]) (fun k G' => G') 0 rfl ?_ ?_ (fun _ _ h => h) ?_ ?_ ?_
 ·exact ⟨Nat.zero_le _, by simp⟩
 ·exact zF
 ·rintro k hI
  exact zL
 ·exact fun _ _ _ _ h => .inl h
 rintro k hI
 dsimp only at hI ⊢
 refine yS fun _ K7 => ?_
 refine yS fun _ K8 => ?_
 refine yR ?_
 refine yM rfl rfl ?_
 refine yM rfl rfl ?_
 refine aa rfl (bn rfl rfl (List.length_map _)) ?_
 refine aa rfl (cn rfl rfl rfl) ?_
 refine yN ?_
 dsimp only [St.put]
 refine K8 _ ?_
 refine ar rfl (fun hc => ?_) (fun hc => ?_)
 ·replace hc := of_decide_eq_true hc
  obtain ⟨x, hx⟩ : ∃ x, a[k]? = some x := dh (by omega)
  obtain ⟨y, hy⟩ : ∃ y, b[k]? = some y := dh (by omega)
  refine ax ?_
  refine K7 _ ?_
  refine yS fun _ K9 => ?_
  refine bj ?_
  refine yS fun _ K10 => ?_
  refine gm [(0, none), (1, none), (2, none), (3, none), (4, none), (5, none), (6, none), (7, none), (8, none)] (fun i => [].contains i) (fun i => [].contains i) (fun i => [0, 1, 2, 4, 5, 6, 8].contains i) [] (by kernel_rfl) (by kernel_rfl) ?_
  refine xM rfl rfl rfl rfl rfl ?_
  refine xM rfl rfl rfl rfl rfl ?_
  try dsimp only [St.put]
  refine af rfl rfl rfl rfl (cb rfl rfl rfl rfl (bx (by assumption)) (Enc.len _)) ?_
  try dsimp only [St.put]
  refine aw rfl rfl rfl rfl (bq rfl rfl) ?_
  refine xM rfl rfl rfl rfl rfl ?_
  refine xM rfl rfl rfl rfl rfl ?_
  try dsimp only [St.put]
  refine af rfl rfl rfl rfl (cb rfl rfl rfl rfl (bx (by assumption)) (Enc.len _)) ?_
  try dsimp only [St.put]
  refine aw rfl rfl rfl rfl (bq rfl rfl) ?_
  refine af rfl rfl rfl rfl (ez rfl rfl rfl) ?_
  refine cj ?_
  dsimp only [St.put]
  refine K10 _ ?_
  refine ar rfl (fun hc => ?_) (fun hc => ?_)
  ·have hxy := j0 hc
   refine yS fun _ K11 => ?_
   refine yR ?_
   refine yA rfl rfl ?_
   refine yN ?_
   dsimp only [St.put]
   refine K11 _ ?_
   refine aq ?_
   refine bg rfl (by constructor) zN zS ?_
   exact vb (by simp [ucu hx hy hxy])
  have hxy := il hc
  refine ax ?_
  refine K9 _ ?_
  refine yR ?_
  refine yM rfl rfl ?_
  refine aa rfl (cg rfl rfl rfl (by omega)) ?_
  refine yA rfl rfl ?_
  refine yN ?_
  dsimp only [St.put]
  exact ⟨k + 1, by omega, ⟨by omega, uaz hI.2 hx (hxy ▸ hy)⟩, ⟨⟨rfl, rfl⟩, zF, zB, zN, zX⟩⟩
 replace hc := of_decide_eq_false hc
 refine dg ?_
 refine K5 _ ?_
 refine yS fun _ K12 => ?_
 refine yR ?_
 refine yA rfl rfl ?_
 refine yN ?_
 dsimp only [St.put]
 refine K12 _ ?_
 refine aq ?_
 refine bg rfl (by constructor) zN zS ?_
 exact vb (by
  have h1 := hI.2
  rw [gq (by omega), gq (by omega)] at h1
  simp [h1])
end Go.Proofs.YtbbdginipiljdaaDoor
namespace Go.AB
open Go Go.RowKit
open Go.AB.Enc (cells)
open Go.PB (av ai PlaceD az bf ba bh am ah ck bk c4 c6)
theorem bit_eq {s k : Nat} : (((s / 2 ^ k % 2 : Nat) : Int) = 1) ↔ s.testBit k = true := by
 rw [Nat.testBit_eq_decide_div_mod_eq, decide_eq_true_eq]
 omega
end Go.AB
namespace Go.Proofs.YtbbdginipiljdaaDoor
set_option maxRecDepth 10000
open Go.RowKit Go.AB
open Go.AB.Enc (cells)
open Go.PB (av ai PlaceD az bf ba bh am ah ck bk c4 c6)
end Go.Proofs.YtbbdginipiljdaaDoor
namespace Go.AB
open Go Go.RowKit
open Go.AB.Enc (cells)
open Go.PB (av ai PlaceD az bf ba bh am ah ck bk c4 c6)
theorem ua3 {l : List am} {g : am → Nat} (k : Nat) : ef (l.take k) g ≤ ef l g := by
 have h : ef l g = ef (l.take k) g + ef (l.drop k) g := by
  unfold ef
  rw [← List.sum_append, ← List.map_append, List.take_append_drop]
 omega
theorem uku {p : ah} {b : Bool} {i : Nat} {r : bh} (h : (dp p b)[i]? = some r) : jg p b i = r.miss := by unfold jg; rw [h]
theorem ul9 (R : Nat → Int) (S : Nat → Bool) (k : Nat) : fR R S (k + 1) = fR R S k + bif S k then R k else 0 := rfl
theorem uek (p : ah) (C : Nat → Int) (S : Nat → Bool) (k : Nat) : fC p C S (k + 1) = fC p C S k + bif (bv p).hit S k then 0 else C k := rfl
end Go.AB
namespace Go.Proofs.YtbbdginipiljdaaDoor
set_option maxRecDepth 10000
open Go.RowKit Go.AB
open Go.AB.Enc (cells)
open Go.PB (av ai PlaceD az bf ba bh am ah ck bk c4 c6)
end Go.Proofs.YtbbdginipiljdaaDoor
namespace Go.Proofs.YtbbdginipiljdaaDoor
set_option maxRecDepth 10000
open Go Go.RowKit Go.AB
open Go.AB.Enc (cells)
open Go.PB (av ai PlaceD az bf ba bh am ah ck bk c4 c6)
theorem uh3 (p : ah) : Pure Tryd.prog 151 [val p] (lst p.firsts) := by
 refine cy Tryd.func151 rfl (fun m => (bp _ _)) fun G nx => ?_
 simp only [Tryd.ntmps151, List.length_cons, List.length_nil, Nat.reduceAdd, Nat.reduceSub]
 refine bu fun hlt => ?_
 dsimp only at hlt
 refine yS fun _ K1 => ?_
 refine yR ?_
 try dsimp only [St.put]
 refine yB rfl rfl rfl ?_
 refine yA rfl rfl ?_
 refine yN ?_
 dsimp only [St.put]
 refine K1 _ ?_
 refine yS fun _ K2 => ?_
 refine yR ?_
 refine yF rfl rfl rfl rfl ?_
 refine yL rfl rfl rfl ?_
 refine yA rfl rfl ?_
 refine yN ?_
 dsimp only [St.put]
 refine K2 _ ?_
 refine aq ?_
 refine bg rfl (by constructor) zN zS ?_
 rfl
theorem uh2 (x : am) : Pure Tryd.prog 152 [val x] (.v (.int .i64 x.fst)) := by
 refine cy Tryd.func152 rfl (fun m => .v) fun G nx => ?_
 simp only [Tryd.ntmps152, List.length_cons, List.length_nil, Nat.reduceAdd, Nat.reduceSub]
 refine bu fun hlt => ?_
 dsimp only at hlt
 refine yS fun _ K1 => ?_
 refine yR ?_
 try dsimp only [St.put]
 refine yB rfl rfl rfl ?_
 refine yA rfl rfl ?_
 refine yN ?_
 dsimp only [St.put]
 refine K1 _ ?_
 refine yS fun _ K2 => ?_
 refine yR ?_
 refine yF rfl rfl rfl rfl ?_
 refine yL rfl rfl rfl ?_
 refine yA rfl rfl ?_
 refine yN ?_
 dsimp only [St.put]
 refine K2 _ ?_
 refine aq ?_
 refine bg rfl (by constructor) zN zS ?_
 rfl
theorem uh1 (x : am) : Pure Tryd.prog 153 [val x] (lst x.found) := by
 refine cy Tryd.func153 rfl (fun m => (bp _ _)) fun G nx => ?_
 simp only [Tryd.ntmps153, List.length_cons, List.length_nil, Nat.reduceAdd, Nat.reduceSub]
 refine bu fun hlt => ?_
 dsimp only at hlt
 refine yS fun _ K1 => ?_
 refine yR ?_
 try dsimp only [St.put]
 refine yB rfl rfl rfl ?_
 refine yA rfl rfl ?_
 refine yN ?_
 dsimp only [St.put]
 refine K1 _ ?_
 refine yS fun _ K2 => ?_
 refine yR ?_
 refine yF rfl rfl rfl rfl ?_
 refine yL rfl rfl rfl ?_
 refine yA rfl rfl ?_
 refine yN ?_
 dsimp only [St.put]
 refine K2 _ ?_
 refine aq ?_
 refine bg rfl (by constructor) zN zS ?_
 rfl
theorem uh0 (p : ah) : Pure Tryd.prog 154 [val p] (lst p.seconds) := by
 refine cy Tryd.func154 rfl (fun m => (bp _ _)) fun G nx => ?_
 simp only [Tryd.ntmps154, List.length_cons, List.length_nil, Nat.reduceAdd, Nat.reduceSub]
 refine bu fun hlt => ?_
 dsimp only at hlt
 refine yS fun _ K1 => ?_
 refine yR ?_
 try dsimp only [St.put]
 refine yB rfl rfl rfl ?_
 refine yA rfl rfl ?_
 refine yN ?_
 dsimp only [St.put]
 refine K1 _ ?_
 refine yS fun _ K2 => ?_
 refine yR ?_
 refine yF rfl rfl rfl rfl ?_
 refine yL rfl rfl rfl ?_
 refine yA rfl rfl ?_
 refine yN ?_
 dsimp only [St.put]
 refine K2 _ ?_
 refine aq ?_
 refine bg rfl (by constructor) zN zS ?_
 rfl
theorem uhz (x : am) : Pure Tryd.prog 155 [val x] (.v (.int .i64 x.snd)) := by
 refine cy Tryd.func155 rfl (fun m => .v) fun G nx => ?_
 simp only [Tryd.ntmps155, List.length_cons, List.length_nil, Nat.reduceAdd, Nat.reduceSub]
 refine bu fun hlt => ?_
 dsimp only at hlt
 refine yS fun _ K1 => ?_
 refine yR ?_
 try dsimp only [St.put]
 refine yB rfl rfl rfl ?_
 refine yA rfl rfl ?_
 refine yN ?_
 dsimp only [St.put]
 refine K1 _ ?_
 refine yS fun _ K2 => ?_
 refine yR ?_
 refine yF rfl rfl rfl rfl ?_
 refine yL rfl rfl rfl ?_
 refine yA rfl rfl ?_
 refine yN ?_
 dsimp only [St.put]
 refine K2 _ ?_
 refine aq ?_
 refine bg rfl (by constructor) zN zS ?_
 rfl
theorem uhy (x : am) : Pure Tryd.prog 156 [val x] (lst x.well) := by
 refine cy Tryd.func156 rfl (fun m => (bp _ _)) fun G nx => ?_
 simp only [Tryd.ntmps156, List.length_cons, List.length_nil, Nat.reduceAdd, Nat.reduceSub]
 refine bu fun hlt => ?_
 dsimp only at hlt
 refine yS fun _ K1 => ?_
 refine yR ?_
 try dsimp only [St.put]
 refine yB rfl rfl rfl ?_
 refine yA rfl rfl ?_
 refine yN ?_
 dsimp only [St.put]
 refine K1 _ ?_
 refine yS fun _ K2 => ?_
 refine yR ?_
 refine yF rfl rfl rfl rfl ?_
 refine yL rfl rfl rfl ?_
 refine yA rfl rfl ?_
 refine yN ?_
 dsimp only [St.put]
 refine K2 _ ?_
 refine aq ?_
 refine bg rfl (by constructor) zN zS ?_
 rfl
def sRd (b : Bool) : FuncId := bif b then 154 else 151
def sFt (b : Bool) : FuncId := bif b then 155 else 152
def sFd (b : Bool) : FuncId := bif b then 156 else 153
instance (b : Bool) : Fun Tryd.prog (sRd b) := by
 cases b
 ·exact inferInstanceAs (Fun Tryd.prog 151)
 exact inferInstanceAs (Fun Tryd.prog 154)
instance (b : Bool) : Fun Tryd.prog (sFt b) := by
 cases b
 ·exact inferInstanceAs (Fun Tryd.prog 152)
 exact inferInstanceAs (Fun Tryd.prog 155)
instance (b : Bool) : Fun Tryd.prog (sFd b) := by
 cases b
 ·exact inferInstanceAs (Fun Tryd.prog 153)
 exact inferInstanceAs (Fun Tryd.prog 156)
theorem pc (b : Bool) (p : ah) : Pure Tryd.prog (sRd b) [val p] (lst (dp p b)) := by
 cases b
 ·exact uh3 p
 exact uh0 p
theorem yk (b : Bool) (x : am) : Pure Tryd.prog (sFt b) [val x] (.v (.int .i64 (fh b x))) := by
 cases b
 ·exact uh2 x
 exact uhz x
theorem ubl (b : Bool) (x : am) : Pure Tryd.prog (sFd b) [val x] (lst (da b x)) := by
 cases b
 ·exact uh1 x
 exact uhy x
abbrev oe (b : Bool) : List C := [.fn (.func (sRd b)) [], .fn (.func (sFt b)) [], .fn (.func (sFd b)) []]
abbrev sidL : List C := oe false ++ oe true
abbrev fg : GObj := .fact (.pointer (some ⟨0, 0, none⟩)) (.elem sidL)
abbrev km (p : ah) : List C := [lst p.text, lst p.firsts, lst p.seconds, lst p.pages, lst (p.pages.map fun x => (fl p.text x : Int)), lst (p.pages.map (er p.text)), lst (p.pages.map (d7 p.text))]
theorem vn : ∀ {k : Nat}, k < 2 → (sidL.drop (k * 3)).take 3 = oe (decide (k = 1))
 | 0, _ => rfl
 | 1, _ => rfl
 | k + 2, h => by omega
set_option maxHeartbeats 1000000 in
theorem ub9 (p : ah) (b : Bool) (i : Nat) (h : ey p) (hi : i < (dp p b).length) : Pure Tryd.prog 49 [.elem (km p), .agg (oe b), .v (.int .i64 (i : Int))] (.tup [.v (.int .i64 (nz p b i)), .v (.int .i64 (mn p b i))]) := by
 refine cy Tryd.func49 rfl (fun m => .tup (ca .v (ca .v c5))) fun G nx => ?_
 simp only [Tryd.ntmps49, List.length_cons, List.length_nil, Nat.reduceAdd, Nat.reduceSub]
 refine bu fun hlt => ?_
 dsimp only at hlt
 have hown := ucg h b (i : Int)
 have hrd := ubw h b (i : Int)
 have hal := qr h.text
 have hnp := h.np
 have hmb := wh h b i
 obtain ⟨r, hr⟩ : ∃ r, (dp p b)[i]? = some r := dh hi
 have hmr := uku hr
 refine yS fun _ K1 => ?_
 refine yR ?_
 try dsimp only [St.put]
 refine yB rfl rfl rfl ?_
 refine yA rfl rfl ?_
 refine yA rfl rfl ?_
 refine yN ?_
 dsimp only [St.put]
 refine K1 _ ?_
 refine yS fun _ K2 => ?_
 refine yR ?_
 refine yA rfl rfl ?_
 refine yA rfl rfl ?_
 refine yN ?_
 dsimp only [St.put]
 refine K2 _ ?_
 refine yS fun _ K3 => ?_
 refine yS fun _ K4 => ?_
 refine yR ?_
 refine yM rfl rfl ?_
 refine aa rfl (ll rfl rfl) ?_
 refine yF rfl rfl rfl rfl ?_
 refine yF rfl rfl rfl rfl ?_
 refine yL rfl rfl rfl ?_
 refine aa rfl (bn rfl rfl (List.length_map _)) ?_
 refine yM rfl rfl ?_
 refine yN ?_
 dsimp only [St.put]
 refine K4 _ ?_
 refine bj ?_
 refine cp 20 ?_
 refine zQ ?_
 refine dl (G) zX ?_
 dsimp only
 refine dj (X := Nat) (fun k => k ≤ p.pages.length) (fun k => p.pages.length - k) (fun k => [(8, .v (.int .i64 ((ef (p.pages.take k) (gk b (i : Int)) : Nat) : Int))), (9, .v (.int .i64 ((ef (p.pages.take k) (i7 p.text b (i : Int)) : Nat) : Int))), (10, .any), (11, .any), (19, .v (.int .i64 (k : Int)))]) (fun k G' => G') 0 rfl ?_ ?_ (fun _ _ h => h) ?_ ?_ ?_
 ·exact Nat.zero_le _
 ·exact zF
 ·rintro k hI
  exact zL
 ·exact fun _ _ _ _ h => .inl h
 rintro k hI
 dsimp only at hI ⊢
 refine yS fun _ K5 => ?_
 refine yR ?_
 refine aa rfl (cn rfl rfl rfl) ?_
 refine yN ?_
 dsimp only [St.put]
 refine K5 _ ?_
 refine yS fun _ K6 => ?_
 refine ar rfl (fun hc => ?_) (fun hc => ?_)
 ·replace hc := of_decide_eq_true hc
  obtain ⟨x, hx⟩ : ∃ x, p.pages[k]? = some x := dh (by omega)
  have hax : (p.pages.map (er p.text))[k]? = some (er p.text x) := by rw [List.getElem?_map, hx]; rfl
  have hp := pageB_true.1 (h.page k x hx)
  have hfd : (da b x).length ≤ 600 := by
   have hfl := pr hp.found
   have hwl := pr hp.well
   cases b
   ·show x.found.length ≤ 600
    omega
   show x.well.length ≤ 600
   omega
  have hgl := w8 p.text x
  have ht1 := ua3 (l := p.pages) (g := gk b (i : Int)) k
  have ht2 := ua3 (l := p.pages) (g := i7 p.text b (i : Int)) k
  refine ax ?_
  refine K6 _ ?_
  refine yS fun _ K7 => ?_
  refine bj ?_
  refine yS fun _ K8 => ?_
  refine yR ?_
  refine yM rfl rfl ?_
  refine aa rfl (cb rfl rfl rfl rfl (bx (by assumption)) (Enc.len _)) ?_
  refine yE rfl rfl rfl ?_
  try dsimp only [St.put]
  refine ae rfl (cz rfl ?_)
  refine yA rfl rfl ?_
  try dsimp only [St.put]
  refine ae rfl (co rfl rfl rfl zG rfl rfl (by rfl) ?_)
  refine yN ?_
  dsimp only [St.put]
  refine K8 _ ?_
  refine eu (i := 11) rfl zG zC ?_
  dsimp only
  refine yS fun _ K9 => ?_
  refine yR ?_
  refine yF rfl rfl rfl rfl ?_
  refine yL rfl rfl rfl ?_
  refine yE rfl rfl rfl ?_
  try dsimp only [St.put]
  refine ae rfl (ay rfl rfl rfl (yk b x) ?_)
  refine yM rfl rfl ?_
  refine aa rfl (ff rfl rfl rfl) ?_
  refine yN ?_
  dsimp only [St.put]
  refine K9 _ ?_
  refine ar rfl (fun hc => ?_) (fun hc => ?_)
  ·have hyes : fh b x = (i : Int) := of_decide_eq_true hc
   refine yS fun _ K10 => ?_
   refine yR ?_
   refine yM rfl rfl ?_
   refine yF rfl rfl rfl rfl ?_
   refine yL rfl rfl rfl ?_
   refine yE rfl rfl rfl ?_
   try dsimp only [St.put]
   refine ae rfl (ay rfl rfl rfl (ubl b x) ?_)
   refine aa rfl (bn rfl rfl (List.length_map _)) ?_
   refine aa rfl (cg rfl rfl rfl (by omega)) ?_
   refine yA rfl rfl ?_
   refine yN ?_
   dsimp only [St.put]
   refine K10 _ ?_
   refine yR ?_
   refine yM rfl rfl ?_
   refine yM rfl rfl ?_
   refine aa rfl (ll rfl rfl) ?_
   refine yF rfl rfl rfl rfl ?_
   refine yL rfl rfl rfl ?_
   refine yM rfl rfl ?_
   refine aa rfl (cb rfl rfl rfl rfl (bx (by assumption)) (Enc.len _)) ?_
   refine yL rfl rfl rfl ?_
   refine aa rfl (bn rfl rfl (List.length_map _)) ?_
   refine aa rfl (cg rfl rfl rfl (by omega)) ?_
   refine yA rfl rfl ?_
   refine yN ?_
   dsimp only [St.put]
   refine K7 _ ?_
   refine yR ?_
   refine aa rfl (cg rfl rfl rfl (by omega)) ?_
   refine yM rfl rfl ?_
   refine yN ?_
   dsimp only [St.put]
   have e1 := s7 (g := gk b (i : Int)) hx
   have e2 := s7 (g := i7 p.text b (i : Int)) hx
   first
   | (have z : fh b x = (i : Int) := hyes
      rw [show ((ef (p.pages.take k) (gk b (i : Int)) : Nat) : Int) + ((da b x).length : Int) = ((ef (p.pages.take (k + 1)) (gk b (i : Int)) : Nat) : Int) by rw [e1]; unfold gk; rw [decide_eq_true z, cond_true]; rfl, show ((ef (p.pages.take k) (i7 p.text b (i : Int)) : Nat) : Int) + ((er p.text x).length : Int) = ((ef (p.pages.take (k + 1)) (i7 p.text b (i : Int)) : Nat) : Int) by rw [e2]; unfold i7; rw [decide_eq_true z, cond_true]; rfl]
      exact ⟨k + 1, by omega, by omega, ⟨⟨rfl, rfl⟩, zF, zB, zN, zX⟩⟩)
   | (have z : ¬ fh b x = (i : Int) := hno
      rw [show ef (p.pages.take k) (gk b (i : Int)) = ef (p.pages.take (k + 1)) (gk b (i : Int)) by rw [e1]; unfold gk; rw [decide_eq_false z]; rfl, show ef (p.pages.take k) (i7 p.text b (i : Int)) = ef (p.pages.take (k + 1)) (i7 p.text b (i : Int)) by rw [e2]; unfold i7; rw [decide_eq_false z]; rfl]
      exact ⟨k + 1, by omega, by omega, ⟨⟨rfl, rfl⟩, zF, zB, zN, zX⟩⟩)
  have hno : ¬ fh b x = (i : Int) := of_decide_eq_false hc
  refine ax ?_
  refine K7 _ ?_
  refine yR ?_
  refine aa rfl (cg rfl rfl rfl (by omega)) ?_
  refine yM rfl rfl ?_
  refine yN ?_
  dsimp only [St.put]
  have e1 := s7 (g := gk b (i : Int)) hx
  have e2 := s7 (g := i7 p.text b (i : Int)) hx
  first
  | (have z : fh b x = (i : Int) := hyes
     rw [show ((ef (p.pages.take k) (gk b (i : Int)) : Nat) : Int) + ((da b x).length : Int) = ((ef (p.pages.take (k + 1)) (gk b (i : Int)) : Nat) : Int) by rw [e1]; unfold gk; rw [decide_eq_true z, cond_true]; rfl, show ((ef (p.pages.take k) (i7 p.text b (i : Int)) : Nat) : Int) + ((er p.text x).length : Int) = ((ef (p.pages.take (k + 1)) (i7 p.text b (i : Int)) : Nat) : Int) by rw [e2]; unfold i7; rw [decide_eq_true z, cond_true]; rfl]
     exact ⟨k + 1, by omega, by omega, ⟨⟨rfl, rfl⟩, zF, zB, zN, zX⟩⟩)
  | (have z : ¬ fh b x = (i : Int) := hno
     rw [show ef (p.pages.take k) (gk b (i : Int)) = ef (p.pages.take (k + 1)) (gk b (i : Int)) by rw [e1]; unfold gk; rw [decide_eq_false z]; rfl, show ef (p.pages.take k) (i7 p.text b (i : Int)) = ef (p.pages.take (k + 1)) (i7 p.text b (i : Int)) by rw [e2]; unfold i7; rw [decide_eq_false z]; rfl]
     exact ⟨k + 1, by omega, by omega, ⟨⟨rfl, rfl⟩, zF, zB, zN, zX⟩⟩)
 replace hc := of_decide_eq_false hc
 obtain rfl : k = p.pages.length := by omega
 rw [gq (Nat.le_refl p.pages.length)]
 refine dg ?_
 refine K3 _ ?_
 refine yS fun _ K11 => ?_
 refine gm [(0, none), (1, none), (2, none), (3, none), (4, none), (5, none), (6, none), (7, none), (9, none), (8, none), (10, none), (11, none), (12, none), (13, none), (14, none), (15, none)] (fun i => [8, 12].contains i) (fun i => [8, 12].contains i) (fun i => [0, 1, 2, 4, 5, 6, 9, 10, 11, 13, 14, 15].contains i) [] (by kernel_rfl) (by kernel_rfl) ?_
 refine xM rfl rfl rfl rfl rfl ?_
 refine af rfl rfl rfl rfl (zg rfl rfl rfl (by omega)) ?_
 refine af rfl rfl rfl rfl (bz rfl rfl rfl) ?_
 try dsimp only [St.put]
 refine aw rfl rfl rfl rfl (bq rfl rfl) ?_
 refine xM rfl rfl rfl rfl rfl ?_
 refine af rfl rfl rfl rfl (ll rfl rfl) ?_
 refine af rfl rfl rfl rfl (bz rfl rfl rfl) ?_
 try dsimp only [St.put]
 refine aw rfl rfl rfl rfl (c := val p) (jq (cs := km p) rfl rfl (show 4 ≤ 7 by decide)) ?_
 refine xM rfl rfl rfl rfl rfl ?_
 refine iz ?_
 try dsimp only [St.put]
 refine gn rfl rfl rfl rfl (ay rfl rfl rfl (pc b p) ?_)
 try dsimp only [St.put]
 refine ec rfl rfl rfl rfl (cb rfl rfl rfl rfl (bx (by assumption)) (Enc.len _)) ?_
 refine ec rfl rfl rfl rfl (bz rfl rfl rfl) ?_
 try dsimp only [St.put]
 refine gn rfl rfl rfl rfl (SStep.e' (D := fun _ => True) (bq rfl rfl) ?_)
 refine ec rfl rfl rfl rfl (gy rfl rfl rfl (by omega)) ?_
 refine ec rfl rfl rfl rfl (zf rfl rfl rfl (by omega) (by omega)) ?_
 refine ec rfl rfl rfl rfl (dn rfl (by constructor)) ?_
 refine iy ?_
 dsimp only [St.put]
 rw [show (100 * ((ef p.pages (gk b (i : Int)) : Nat) : Int)) / (100 - r.miss) = nz p b i by unfold nz; rw [hmr]]
 have hbd := ufa h b i
 refine K11 _ ?_
 refine yS fun _ K12 => ?_
 refine yR ?_
 refine yM rfl rfl ?_
 refine yM rfl rfl ?_
 refine yM rfl rfl ?_
 refine aa rfl (gy rfl rfl rfl (by omega)) ?_
 refine yA rfl rfl ?_
 refine yA rfl rfl ?_
 refine yN ?_
 dsimp only [St.put]
 refine K12 _ ?_
 refine aq ?_
 refine j9 rfl (by constructor) (by constructor) zN zS ?_ ?_
 ·rfl
 exact vi (by unfold mn; rfl)
end Go.Proofs.YtbbdginipiljdaaDoor
namespace Go.AB
open Go Go.RowKit
open Go.AB.Enc (cells)
open Go.PB (av ai PlaceD az bf ba bh am ah ck bk c4 c6)
theorem uiw {p : ah} (h : ey p) {j : Nat} {x : am} (hx : p.pages[j]? = some x) {k : Nat} (hk : k < (dm p x).length) : ∃ zn : Nat, (dm p x)[k]? = some (zn : Int) ∧ zn ≤ 6 := by
 have hp := pageB_true.1 (h.page j x hx)
 have h1 := hp.fst
 have h2 := hp.snd
 have h3 := h.nf
 have h4 := h.ns
 obtain ⟨z, hz⟩ : ∃ z, (dm p x)[k]? = some z := ⟨_, List.getElem?_eq_getElem hk⟩
 have hm := List.mem_of_getElem? hz
 have hb : 0 ≤ z ∧ z ≤ 6 := by
  unfold dm at hm
  rw [List.mem_append] at hm
  rcases hm with hm | hm
  ·by_cases q : 0 ≤ x.fst
   ·rw [decide_eq_true q, cond_true, List.mem_singleton] at hm; omega
   rw [decide_eq_false q] at hm; cases hm
  by_cases q : 0 ≤ x.snd
  ·rw [decide_eq_true q, cond_true, List.mem_singleton] at hm; omega
  rw [decide_eq_false q] at hm; cases hm
 exact ⟨z.toNat, by rw [hz]; congr 1; omega, by omega⟩
theorem yv (p : ah) (x : am) : (dm p x).length ≤ 2 := by
 unfold dm
 rw [List.length_append]
 cases decide (0 ≤ x.fst) <;> cases decide (0 ≤ x.snd) <;> simp
end Go.AB
namespace Go.Proofs.YtbbdginipiljdaaDoor
set_option maxRecDepth 10000
open Go.RowKit Go.AB
open Go.AB.Enc (cells)
open Go.PB (av ai PlaceD az bf ba bh am ah ck bk c4 c6)
end Go.Proofs.YtbbdginipiljdaaDoor
namespace Go.Proofs.YtbbdginipiljdaaDoor
set_option maxRecDepth 10000
open Go.RowKit Go.AB
open Go.AB.Enc (cells)
open Go.PB (av ai PlaceD az bf ba bh am ah ck bk c4 c6)
end Go.Proofs.YtbbdginipiljdaaDoor
namespace Go.AB
open Go Go.RowKit
open Go.AB.Enc (cells)
open Go.PB (av ai PlaceD az bf ba)
theorem lt3 {a b c a' b' c' : Int} : fb [a, b, c] [a', b', c'] < 0 ↔ a < a' ∨ a = a' ∧ (b < b' ∨ b = b' ∧ c < c') := by
 rw [ny (a := [a, b, c]) (b := [a', b', c']) rfl]; simp [ltW]
end Go.AB
namespace Go.Proofs.YtbbdginipiljdaaDoor
set_option maxRecDepth 10000
open Go.RowKit Go.AB
open Go.AB.Enc (cells)
open Go.PB (av ai PlaceD az bf ba)
theorem ugb (a b : PlaceD) : Pure Tryd.prog 102 [val a, val b] (.v (.bool (decide (fb (cw a) (cw b) < 0)))) := by
 refine cy Tryd.func102 rfl (fun m => .v) fun G nx => ?_
 simp only [Tryd.ntmps102, List.length_cons, List.length_nil, Nat.reduceAdd, Nat.reduceSub]
 refine bu fun hlt => ?_
 dsimp only at hlt
 refine yS fun _ K1 => ?_
 refine yR ?_
 try dsimp only [St.put]
 refine yB rfl rfl rfl ?_
 try dsimp only [St.put]
 refine yB rfl rfl rfl ?_
 refine yA rfl rfl ?_
 refine yN ?_
 dsimp only [St.put]
 refine K1 _ ?_
 refine yS fun _ K2 => ?_
 refine yS fun _ K3 => ?_
 refine yR ?_
 refine yF rfl rfl rfl rfl ?_
 refine yL rfl rfl rfl ?_
 refine yF rfl rfl rfl rfl ?_
 refine yL rfl rfl rfl ?_
 refine aa rfl (ez rfl rfl rfl) ?_
 refine yN ?_
 dsimp only [St.put]
 refine K3 _ ?_
 refine ar rfl (fun hc => ?_) (fun hc => ?_)
 ·have h1 : a.ch ≠ b.ch := j0 hc
  refine yS fun _ K4 => ?_
  refine yR ?_
  refine yF rfl rfl rfl rfl ?_
  refine yL rfl rfl rfl ?_
  refine yF rfl rfl rfl rfl ?_
  refine yL rfl rfl rfl ?_
  refine aa rfl (cn rfl rfl rfl) ?_
  refine yA rfl rfl ?_
  refine yN ?_
  dsimp only [St.put]
  refine K4 _ ?_
  refine aq ?_
  refine bg rfl (by constructor) zN zS ?_
  exact vb (by rw [decide_eq_decide, cw, cw, lt3]; omega)
 have h1 : a.ch = b.ch := il hc
 refine ax ?_
 refine K2 _ ?_
 refine yS fun _ K5 => ?_
 refine yS fun _ K6 => ?_
 refine yR ?_
 refine yF rfl rfl rfl rfl ?_
 refine yL rfl rfl rfl ?_
 refine yF rfl rfl rfl rfl ?_
 refine yL rfl rfl rfl ?_
 refine aa rfl (ez rfl rfl rfl) ?_
 refine yN ?_
 dsimp only [St.put]
 refine K6 _ ?_
 refine ar rfl (fun hc => ?_) (fun hc => ?_)
 ·have h2 : a.ln ≠ b.ln := j0 hc
  refine yS fun _ K7 => ?_
  refine yR ?_
  refine yF rfl rfl rfl rfl ?_
  refine yL rfl rfl rfl ?_
  refine yF rfl rfl rfl rfl ?_
  refine yL rfl rfl rfl ?_
  refine aa rfl (cn rfl rfl rfl) ?_
  refine yA rfl rfl ?_
  refine yN ?_
  dsimp only [St.put]
  refine K7 _ ?_
  refine aq ?_
  refine bg rfl (by constructor) zN zS ?_
  exact vb (by rw [decide_eq_decide, cw, cw, lt3]; omega)
 have h2 : a.ln = b.ln := il hc
 refine ax ?_
 refine K5 _ ?_
 refine yS fun _ K8 => ?_
 refine yR ?_
 refine yF rfl rfl rfl rfl ?_
 refine yL rfl rfl rfl ?_
 refine yF rfl rfl rfl rfl ?_
 refine yL rfl rfl rfl ?_
 refine aa rfl (cn rfl rfl rfl) ?_
 refine yA rfl rfl ?_
 refine yN ?_
 dsimp only [St.put]
 refine K8 _ ?_
 refine aq ?_
 refine bg rfl (by constructor) zN zS ?_
 exact vb (by rw [decide_eq_decide, cw, cw, lt3]; omega)
end Go.Proofs.YtbbdginipiljdaaDoor
namespace Go.Proofs.YtbbdginipiljdaaDoor
set_option maxRecDepth 10000
open Go.RowKit Go.AB
open Go.AB.Enc (cells)
open Go.PB (av ai PlaceD az bf ba bh am ah ck bk c4 c6)
set_option maxHeartbeats 1000000 in
theorem uby (t : ai) (x : am) (r : Int) (l : List PlaceD) (ht : dr t = true) : Pure Tryd.prog 79 [gp t, val x, .v (.int .i64 r), lst l] (.v (.bool (g8 t x r l))) := by
 refine cy Tryd.func79 rfl (fun m => .v) fun G nx => ?_
 simp only [Tryd.ntmps79, List.length_cons, List.length_nil, Nat.reduceAdd, Nat.reduceSub]
 refine bu fun hlt => ?_
 dsimp only at hlt
 refine kf 3 (fun hfl => ?_)
 have hl0 := (fit_lst.1 hfl).1
 refine yS fun _ K1 => ?_
 refine yR ?_
 try dsimp only [St.put]
 refine yB rfl rfl rfl ?_
 try dsimp only [St.put]
 refine yB rfl rfl rfl ?_
 refine yA rfl rfl ?_
 refine yN ?_
 dsimp only [St.put]
 refine K1 _ ?_
 refine yS fun _ K2 => ?_
 refine yS fun _ K3 => ?_
 refine yR ?_
 refine yM rfl rfl ?_
 refine aa rfl (cn rfl rfl rfl) ?_
 refine et (fun hs => ?_) (fun hs => ?_)
 ·have s1 : r < 0 := of_decide_eq_true hs
  refine yM rfl rfl ?_
  refine yM rfl rfl ?_
  refine aa rfl (bn rfl rfl (List.length_map _)) ?_
  refine aa rfl (gt rfl rfl rfl) ?_
  refine aa rfl (bw rfl rfl (by constructor)) ?_
  refine yN ?_
  dsimp only [St.put]
  refine K3 _ ?_
  refine ar rfl (fun hc => ?_) (fun hc => ?_)
  ·have s2 : 0 < l.length := by
    have := of_decide_eq_true hc
    omega
   refine yS fun _ K4 => ?_
   refine yR ?_
   refine yA rfl rfl ?_
   refine yN ?_
   dsimp only [St.put]
   refine K4 _ ?_
   refine aq ?_
   refine bg rfl (by constructor) zN zS ?_
   exact vb (by
    have e1 : ¬ 0 ≤ r := by omega
    have e2 : l ≠ [] := fun e => by rw [e] at s2; exact absurd s2 (by simp)
    simp [g8, e1, e2])
  have s3 : (decide (0 ≤ r) || decide (l = [])) = true := by
   first
   | (rw [decide_eq_true (show 0 ≤ r by omega)]; rfl)
   | (have := of_decide_eq_false hc
      have : l = [] := List.eq_nil_of_length_eq_zero (by omega)
      simp [this])
  refine ax ?_
  refine K2 _ ?_
  refine yS fun _ K5 => ?_
  refine yS fun _ K6 => ?_
  refine yR ?_
  refine yA rfl rfl ?_
  refine yN ?_
  dsimp only [St.put]
  refine K6 _ ?_
  refine bj ?_
  refine cp 10 ?_
  refine zQ ?_
  refine dl (G) zX ?_
  dsimp only
  refine dj (X := Nat) (fun i => i ≤ l.length ∧ dq t x l i = true) (fun i => l.length - i) (fun i => [(9, .v (.int .i64 (i : Int)))]) (fun i G' => G') 0 rfl ?_ ?_ (fun _ _ h => h) ?_ ?_ ?_
  ·exact ⟨Nat.zero_le _, rfl⟩
  ·exact zF
  ·rintro i hI
   exact zL
  ·exact fun _ _ _ _ h => .inl h
  rintro i hI
  dsimp only at hI ⊢
  refine yS fun _ K7 => ?_
  refine yS fun _ K8 => ?_
  refine yR ?_
  refine yM rfl rfl ?_
  refine yM rfl rfl ?_
  refine aa rfl (bn rfl rfl (List.length_map _)) ?_
  refine aa rfl (cn rfl rfl rfl) ?_
  refine yN ?_
  dsimp only [St.put]
  refine K8 _ ?_
  refine ar rfl (fun hc => ?_) (fun hc => ?_)
  ·replace hc := of_decide_eq_true hc
   obtain ⟨q, hq⟩ : ∃ q, l[i]? = some q := dh (by omega)
   refine ax ?_
   refine K7 _ ?_
   refine yS fun _ K9 => ?_
   refine bj ?_
   refine cp 10 ?_
   refine zQ ?_
   refine lx (X := Bool) (fun d => jh t x l i = !d) (fun d => [(60, .v (.bool d))]) (fun d G' => G') rfl ?_ (fun _ _ _ _ h => .inl h) ?_ ?_
   ·rintro d hI
    exact zL
   ·refine qn [(0, none), (1, none), (2, none), (3, none), (4, none)] (fun _ => false) (fun i => [1, 2, 3].contains i) 33 (rl [5, 33]) (by kernel_rfl) (by kernel_rfl) ?_
    try dsimp only [St.put]
    refine aw rfl rfl rfl rfl (dz rfl rfl rfl) ?_
    refine xM rfl rfl rfl rfl rfl ?_
    refine xM rfl rfl rfl rfl rfl ?_
    try dsimp only [St.put]
    refine af rfl rfl rfl rfl (cb rfl rfl rfl rfl (bx (by assumption)) (Enc.len _)) ?_
    try dsimp only [St.put]
    refine aw rfl rfl rfl rfl (dz rfl rfl (Enc.len _)) ?_
    refine cj ?_
    refine dt [5] (by kernel_rfl) (by simp) ?_
    refine dw ?_ ?_
    ·try dsimp only [St.put]
     refine ix rfl rfl rfl (ay rfl rfl rfl (uf7 t q ht) ?_)
     refine el [(6, none), (7, none), (8, none), (9, none), (10, none), (11, none), (12, none), (14, none), (15, none), (16, none), (17, none)] (fun i => [6, 7, 9, 10, 11, 14, 16].contains i) 21 (rl [13, 1, 4, 20]) (by kernel_rfl) ?_
     refine af rfl rfl rfl rfl (d9 rfl rfl) ?_
     refine jx (fun hs => ?_) (fun hs => ?_)
     ·have s4 := hs
      refine xM rfl rfl rfl rfl rfl ?_
      refine aj rfl rfl rfl ?_
      refine aj rfl rfl rfl ?_
      refine aj rfl rfl rfl ?_
      refine aj rfl rfl rfl ?_
      refine aj rfl rfl rfl ?_
      refine aj rfl rfl rfl ?_
      refine aj rfl rfl rfl ?_
      refine aj rfl rfl rfl ?_
      refine aj rfl rfl rfl ?_
      refine cj ?_
      refine dt [13] (by kernel_rfl) (by simp) ?_
      refine dw ?_ ?_
      ·refine f8 rfl rfl rfl ?_
       refine dt [18] (by kernel_rfl) (by simp) ?_
       refine dw ?_ ?_
       ·refine f8 rfl rfl rfl ?_
        refine el [(19, none), (20, none), (21, none), (22, none), (23, none), (24, none), (25, none), (26, none), (27, none), (28, none), (29, none), (30, none), (31, none), (32, none), (33, none)] (fun i => [19, 20, 21, 22, 23, 24, 25, 26, 27, 28, 30, 31, 32].contains i) 4 (rl [34, 4]) (by kernel_rfl) ?_
        refine aj rfl rfl rfl ?_
        refine af rfl rfl rfl rfl (bw rfl rfl (by constructor)) ?_
        refine xM rfl rfl rfl rfl rfl ?_
        refine aj rfl rfl rfl ?_
        refine aj rfl rfl rfl ?_
        refine aj rfl rfl rfl ?_
        refine aj rfl rfl rfl ?_
        refine aj rfl rfl rfl ?_
        refine aj rfl rfl rfl ?_
        refine aj rfl rfl rfl ?_
        refine aj rfl rfl rfl ?_
        refine aj rfl rfl rfl ?_
        refine aj rfl rfl rfl ?_
        refine aj rfl rfl rfl ?_
        refine aj rfl rfl rfl ?_
        refine cj ?_
        refine dt [34] (by kernel_rfl) (by simp) ?_
        refine dw ?_ ?_
        ·refine f8 rfl rfl rfl ?_
         refine el [(35, none), (36, none), (37, none)] (fun i => [35, 36, 37].contains i) 0 (rl [38]) (by kernel_rfl) ?_
         refine aj rfl rfl rfl ?_
         refine aj rfl rfl rfl ?_
         refine af rfl rfl rfl rfl (bw rfl rfl (by constructor)) ?_
         refine cj ?_
         dsimp only [St.put]
         refine g9 (by kernel_rfl) ?_
         refine ⟨_, ?_, ⟨⟨rfl, rfl⟩, zF, zB, zN, zX⟩⟩
         simp_all [jh, gx, my]
         try (intro h0; omega)
        exact dv
       exact dv
      exact dv
     have hqp : fu t q = true := by simpa using hs
     refine xM rfl rfl rfl rfl rfl ?_
     try dsimp only [St.put]
     refine aw rfl rfl rfl rfl (dz rfl rfl rfl) ?_
     refine xM rfl rfl rfl rfl rfl ?_
     refine xM rfl rfl rfl rfl rfl ?_
     try dsimp only [St.put]
     refine af rfl rfl rfl rfl (cb rfl rfl rfl rfl (bx (by assumption)) (Enc.len _)) ?_
     try dsimp only [St.put]
     refine aw rfl rfl rfl rfl (dz rfl rfl (Enc.len _)) ?_
     refine af rfl rfl rfl rfl (bz rfl rfl rfl) ?_
     try dsimp only [St.put]
     refine aw rfl rfl rfl rfl (bq rfl rfl) ?_
     refine af rfl rfl rfl rfl (bz rfl rfl rfl) ?_
     try dsimp only [St.put]
     refine aw rfl rfl rfl rfl (bq rfl rfl) ?_
     refine cj ?_
     refine dt [13] (by kernel_rfl) (by simp) ?_
     refine dw ?_ ?_
     ·try dsimp only [St.put]
      refine ix rfl rfl rfl (ay rfl rfl rfl (ub0 t q ht hqp) ?_)
      refine dt [18] (by kernel_rfl) (by simp) ?_
      refine dw ?_ ?_
      ·try dsimp only [St.put]
       refine ix rfl rfl rfl (ay rfl rfl rfl (rf _ _ _) ?_)
       refine el [(19, none), (20, none), (21, none), (22, none), (23, none), (24, none), (25, none), (26, none), (27, none), (28, none), (29, none), (30, none), (31, none), (32, none), (33, none)] (fun i => [19, 20, 21, 22, 23, 24, 25, 26, 27, 28, 30, 31, 32].contains i) 4 (rl [34, 4]) (by kernel_rfl) ?_
       refine af rfl rfl rfl rfl (d9 rfl rfl) ?_
       refine jx (fun hs => ?_) (fun hs => ?_)
       ·have s5 := hs
        refine af rfl rfl rfl rfl (cm rfl rfl (by constructor)) ?_
        refine xM rfl rfl rfl rfl rfl ?_
        refine aj rfl rfl rfl ?_
        refine aj rfl rfl rfl ?_
        refine aj rfl rfl rfl ?_
        refine aj rfl rfl rfl ?_
        refine aj rfl rfl rfl ?_
        refine aj rfl rfl rfl ?_
        refine aj rfl rfl rfl ?_
        refine aj rfl rfl rfl ?_
        refine aj rfl rfl rfl ?_
        refine aj rfl rfl rfl ?_
        refine aj rfl rfl rfl ?_
        refine aj rfl rfl rfl ?_
        refine cj ?_
        refine dt [34] (by kernel_rfl) (by simp) ?_
        refine dw ?_ ?_
        ·refine f8 rfl rfl rfl ?_
         refine el [(35, none), (36, none), (37, none)] (fun i => [35, 36, 37].contains i) 0 (rl [38]) (by kernel_rfl) ?_
         refine aj rfl rfl rfl ?_
         refine aj rfl rfl rfl ?_
         refine af rfl rfl rfl rfl (bw rfl rfl (by constructor)) ?_
         refine cj ?_
         dsimp only [St.put]
         refine g9 (by kernel_rfl) ?_
         refine ⟨_, ?_, ⟨⟨rfl, rfl⟩, zF, zB, zN, zX⟩⟩
         simp_all [jh, gx, my]
         try (intro h0; omega)
        exact dv
       have s5 := hs
       refine af rfl rfl rfl rfl (cm rfl rfl (by constructor)) ?_
       refine xM rfl rfl rfl rfl rfl ?_
       refine xM rfl rfl rfl rfl rfl ?_
       refine af rfl rfl rfl rfl (gt rfl rfl rfl) ?_
       refine jx (fun hs => ?_) (fun hs => ?_)
       ·have s6 : 0 < i := by
         have := of_decide_eq_true hs
         omega
        obtain ⟨q0, hq0⟩ : ∃ q0, l[i - 1]? = some q0 := dh (by omega)
        refine xM rfl rfl rfl rfl rfl ?_
        refine xM rfl rfl rfl rfl rfl ?_
        refine xM rfl rfl rfl rfl rfl ?_
        refine af rfl rfl rfl rfl (gy rfl rfl rfl (by omega)) ?_
        try dsimp only [St.put]
        refine af rfl rfl rfl rfl (cb (k := i - 1) rfl rfl rfl (by omega) (bx hq0) (Enc.len _)) ?_
        try dsimp only [St.put]
        refine aw rfl rfl rfl rfl (dz rfl rfl (Enc.len _)) ?_
        refine xM rfl rfl rfl rfl rfl ?_
        refine xM rfl rfl rfl rfl rfl ?_
        try dsimp only [St.put]
        refine af rfl rfl rfl rfl (cb rfl rfl rfl rfl (bx (by assumption)) (Enc.len _)) ?_
        try dsimp only [St.put]
        refine aw rfl rfl rfl rfl (dz rfl rfl (Enc.len _)) ?_
        refine cj ?_
        refine dt [34] (by kernel_rfl) (by simp) ?_
        refine dw ?_ ?_
        ·try dsimp only [St.put]
         refine ix rfl rfl rfl (ay rfl rfl rfl (ugb q0 q) ?_)
         refine el [(35, none), (36, none), (37, none)] (fun i => [35, 36, 37].contains i) 0 (rl [38]) (by kernel_rfl) ?_
         refine af rfl rfl rfl rfl (d9 rfl rfl) ?_
         refine af rfl rfl rfl rfl (bw rfl rfl (by constructor)) ?_
         refine af rfl rfl rfl rfl (cm rfl rfl (by constructor)) ?_
         refine cj ?_
         dsimp only [St.put]
         refine g9 (by kernel_rfl) ?_
         refine ⟨_, ?_, ⟨⟨rfl, rfl⟩, zF, zB, zN, zX⟩⟩
         simp_all [jh, gx, my]
         try (intro h0; omega)
        exact dv
       have s6 : i = 0 := by
        have := of_decide_eq_false hs
        omega
       refine xM rfl rfl rfl rfl rfl ?_
       refine aj rfl rfl rfl ?_
       refine aj rfl rfl rfl ?_
       refine aj rfl rfl rfl ?_
       refine aj rfl rfl rfl ?_
       refine aj rfl rfl rfl ?_
       refine aj rfl rfl rfl ?_
       refine aj rfl rfl rfl ?_
       refine aj rfl rfl rfl ?_
       refine aj rfl rfl rfl ?_
       refine cj ?_
       refine dt [34] (by kernel_rfl) (by simp) ?_
       refine dw ?_ ?_
       ·refine f8 rfl rfl rfl ?_
        refine el [(35, none), (36, none), (37, none)] (fun i => [35, 36, 37].contains i) 0 (rl [38]) (by kernel_rfl) ?_
        refine aj rfl rfl rfl ?_
        refine af rfl rfl rfl rfl (cm rfl rfl (by constructor)) ?_
        refine af rfl rfl rfl rfl (cm rfl rfl (by constructor)) ?_
        refine cj ?_
        dsimp only [St.put]
        refine g9 (by kernel_rfl) ?_
        refine ⟨_, ?_, ⟨⟨rfl, rfl⟩, zF, zB, zN, zX⟩⟩
        simp_all [jh, gx, my]
        try (intro h0; omega)
       exact dv
      exact dv
     exact dv
    exact dv
   rintro d hst
   dsimp only at hst ⊢
   refine ar rfl (fun hc => ?_) (fun hc => ?_)
   ·skip
    refine yS fun _ K11 => ?_
    refine yR ?_
    refine yA rfl rfl ?_
    refine yN ?_
    dsimp only [St.put]
    refine K11 _ ?_
    refine aq ?_
    refine bg rfl (by constructor) zN zS ?_
    exact vb (by
     have e : jh t x l i = false := by rw [hst, hc]; rfl
     have : dq t x l l.length = false := by
      refine List.all_eq_false.2 ⟨i, List.mem_range.2 (by omega), by rw [e]; simp⟩
     simp [g8, this])
   skip
   refine ax ?_
   refine K9 _ ?_
   refine yR ?_
   refine yM rfl rfl ?_
   refine aa rfl (cg rfl rfl rfl (by omega)) ?_
   refine yA rfl rfl ?_
   refine yN ?_
   dsimp only [St.put]
   exact ⟨i + 1, by omega, ⟨by omega, by rw [gu, hI.2, hst, hc]; rfl⟩, ⟨⟨rfl, rfl⟩, zF, zB, zN, zX⟩⟩
  replace hc := of_decide_eq_false hc
  obtain rfl : i = l.length := by omega
  refine dg ?_
  refine K5 _ ?_
  refine yS fun _ K12 => ?_
  refine yR ?_
  refine yA rfl rfl ?_
  refine yN ?_
  dsimp only [St.put]
  refine K12 _ ?_
  refine aq ?_
  refine bg rfl (by constructor) zN zS ?_
  exact vb (by
   unfold g8
   rw [hI.2, Bool.and_true]
   first
   | exact s3.symm
   | (have e1 : 0 ≤ r := by omega
      simp [e1]))
 have s1 : ¬ r < 0 := of_decide_eq_false hs
 refine yM rfl rfl ?_
 refine yK rfl ?_
 refine yK rfl ?_
 refine yK rfl ?_
 refine aa rfl (cm rfl rfl (by constructor)) ?_
 refine yN ?_
 dsimp only [St.put]
 refine K3 _ ?_
 refine ar rfl (fun h => by cases h) (fun _ => ?_)
 have s3 : (decide (0 ≤ r) || decide (l = [])) = true := by
  first
  | (rw [decide_eq_true (show 0 ≤ r by omega)]; rfl)
  | (have := of_decide_eq_false hc
     have : l = [] := List.eq_nil_of_length_eq_zero (by omega)
     simp [this])
 refine ax ?_
 refine K2 _ ?_
 refine yS fun _ K13 => ?_
 refine yS fun _ K14 => ?_
 refine yR ?_
 refine yA rfl rfl ?_
 refine yN ?_
 dsimp only [St.put]
 refine K14 _ ?_
 refine bj ?_
 refine cp 10 ?_
 refine zQ ?_
 refine dl (G) zX ?_
 dsimp only
 refine dj (X := Nat) (fun i => i ≤ l.length ∧ dq t x l i = true) (fun i => l.length - i) (fun i => [(9, .v (.int .i64 (i : Int)))]) (fun i G' => G') 0 rfl ?_ ?_ (fun _ _ h => h) ?_ ?_ ?_
 ·exact ⟨Nat.zero_le _, rfl⟩
 ·exact zF
 ·rintro i hI
  exact zL
 ·exact fun _ _ _ _ h => .inl h
 rintro i hI
 dsimp only at hI ⊢
 refine yS fun _ K15 => ?_
 refine yS fun _ K16 => ?_
 refine yR ?_
 refine yM rfl rfl ?_
 refine yM rfl rfl ?_
 refine aa rfl (bn rfl rfl (List.length_map _)) ?_
 refine aa rfl (cn rfl rfl rfl) ?_
 refine yN ?_
 dsimp only [St.put]
 refine K16 _ ?_
 refine ar rfl (fun hc => ?_) (fun hc => ?_)
 ·replace hc := of_decide_eq_true hc
  obtain ⟨q, hq⟩ : ∃ q, l[i]? = some q := dh (by omega)
  refine ax ?_
  refine K15 _ ?_
  refine yS fun _ K17 => ?_
  refine bj ?_
  refine cp 10 ?_
  refine zQ ?_
  refine lx (X := Bool) (fun d => jh t x l i = !d) (fun d => [(60, .v (.bool d))]) (fun d G' => G') rfl ?_ (fun _ _ _ _ h => .inl h) ?_ ?_
  ·rintro d hI
   exact zL
  ·refine qn [(0, none), (1, none), (2, none), (3, none), (4, none)] (fun _ => false) (fun i => [1, 2, 3].contains i) 33 (rl [5, 33]) (by kernel_rfl) (by kernel_rfl) ?_
   try dsimp only [St.put]
   refine aw rfl rfl rfl rfl (dz rfl rfl rfl) ?_
   refine xM rfl rfl rfl rfl rfl ?_
   refine xM rfl rfl rfl rfl rfl ?_
   try dsimp only [St.put]
   refine af rfl rfl rfl rfl (cb rfl rfl rfl rfl (bx (by assumption)) (Enc.len _)) ?_
   try dsimp only [St.put]
   refine aw rfl rfl rfl rfl (dz rfl rfl (Enc.len _)) ?_
   refine cj ?_
   refine dt [5] (by kernel_rfl) (by simp) ?_
   refine dw ?_ ?_
   ·try dsimp only [St.put]
    refine ix rfl rfl rfl (ay rfl rfl rfl (uf7 t q ht) ?_)
    refine el [(6, none), (7, none), (8, none), (9, none), (10, none), (11, none), (12, none), (14, none), (15, none), (16, none), (17, none)] (fun i => [6, 7, 9, 10, 11, 14, 16].contains i) 21 (rl [13, 1, 4, 20]) (by kernel_rfl) ?_
    refine af rfl rfl rfl rfl (d9 rfl rfl) ?_
    refine jx (fun hs => ?_) (fun hs => ?_)
    ·have s4 := hs
     refine xM rfl rfl rfl rfl rfl ?_
     refine aj rfl rfl rfl ?_
     refine aj rfl rfl rfl ?_
     refine aj rfl rfl rfl ?_
     refine aj rfl rfl rfl ?_
     refine aj rfl rfl rfl ?_
     refine aj rfl rfl rfl ?_
     refine aj rfl rfl rfl ?_
     refine aj rfl rfl rfl ?_
     refine aj rfl rfl rfl ?_
     refine cj ?_
     refine dt [13] (by kernel_rfl) (by simp) ?_
     refine dw ?_ ?_
     ·refine f8 rfl rfl rfl ?_
      refine dt [18] (by kernel_rfl) (by simp) ?_
      refine dw ?_ ?_
      ·refine f8 rfl rfl rfl ?_
       refine el [(19, none), (20, none), (21, none), (22, none), (23, none), (24, none), (25, none), (26, none), (27, none), (28, none), (29, none), (30, none), (31, none), (32, none), (33, none)] (fun i => [19, 20, 21, 22, 23, 24, 25, 26, 27, 28, 30, 31, 32].contains i) 4 (rl [34, 4]) (by kernel_rfl) ?_
       refine aj rfl rfl rfl ?_
       refine af rfl rfl rfl rfl (bw rfl rfl (by constructor)) ?_
       refine xM rfl rfl rfl rfl rfl ?_
       refine aj rfl rfl rfl ?_
       refine aj rfl rfl rfl ?_
       refine aj rfl rfl rfl ?_
       refine aj rfl rfl rfl ?_
       refine aj rfl rfl rfl ?_
       refine aj rfl rfl rfl ?_
       refine aj rfl rfl rfl ?_
       refine aj rfl rfl rfl ?_
       refine aj rfl rfl rfl ?_
       refine aj rfl rfl rfl ?_
       refine aj rfl rfl rfl ?_
       refine aj rfl rfl rfl ?_
       refine cj ?_
       refine dt [34] (by kernel_rfl) (by simp) ?_
       refine dw ?_ ?_
       ·refine f8 rfl rfl rfl ?_
        refine el [(35, none), (36, none), (37, none)] (fun i => [35, 36, 37].contains i) 0 (rl [38]) (by kernel_rfl) ?_
        refine aj rfl rfl rfl ?_
        refine aj rfl rfl rfl ?_
        refine af rfl rfl rfl rfl (bw rfl rfl (by constructor)) ?_
        refine cj ?_
        dsimp only [St.put]
        refine g9 (by kernel_rfl) ?_
        refine ⟨_, ?_, ⟨⟨rfl, rfl⟩, zF, zB, zN, zX⟩⟩
        simp_all [jh, gx, my]
        try (intro h0; omega)
       exact dv
      exact dv
     exact dv
    have hqp : fu t q = true := by simpa using hs
    refine xM rfl rfl rfl rfl rfl ?_
    try dsimp only [St.put]
    refine aw rfl rfl rfl rfl (dz rfl rfl rfl) ?_
    refine xM rfl rfl rfl rfl rfl ?_
    refine xM rfl rfl rfl rfl rfl ?_
    try dsimp only [St.put]
    refine af rfl rfl rfl rfl (cb rfl rfl rfl rfl (bx (by assumption)) (Enc.len _)) ?_
    try dsimp only [St.put]
    refine aw rfl rfl rfl rfl (dz rfl rfl (Enc.len _)) ?_
    refine af rfl rfl rfl rfl (bz rfl rfl rfl) ?_
    try dsimp only [St.put]
    refine aw rfl rfl rfl rfl (bq rfl rfl) ?_
    refine af rfl rfl rfl rfl (bz rfl rfl rfl) ?_
    try dsimp only [St.put]
    refine aw rfl rfl rfl rfl (bq rfl rfl) ?_
    refine cj ?_
    refine dt [13] (by kernel_rfl) (by simp) ?_
    refine dw ?_ ?_
    ·try dsimp only [St.put]
     refine ix rfl rfl rfl (ay rfl rfl rfl (ub0 t q ht hqp) ?_)
     refine dt [18] (by kernel_rfl) (by simp) ?_
     refine dw ?_ ?_
     ·try dsimp only [St.put]
      refine ix rfl rfl rfl (ay rfl rfl rfl (rf _ _ _) ?_)
      refine el [(19, none), (20, none), (21, none), (22, none), (23, none), (24, none), (25, none), (26, none), (27, none), (28, none), (29, none), (30, none), (31, none), (32, none), (33, none)] (fun i => [19, 20, 21, 22, 23, 24, 25, 26, 27, 28, 30, 31, 32].contains i) 4 (rl [34, 4]) (by kernel_rfl) ?_
      refine af rfl rfl rfl rfl (d9 rfl rfl) ?_
      refine jx (fun hs => ?_) (fun hs => ?_)
      ·have s5 := hs
       refine af rfl rfl rfl rfl (cm rfl rfl (by constructor)) ?_
       refine xM rfl rfl rfl rfl rfl ?_
       refine aj rfl rfl rfl ?_
       refine aj rfl rfl rfl ?_
       refine aj rfl rfl rfl ?_
       refine aj rfl rfl rfl ?_
       refine aj rfl rfl rfl ?_
       refine aj rfl rfl rfl ?_
       refine aj rfl rfl rfl ?_
       refine aj rfl rfl rfl ?_
       refine aj rfl rfl rfl ?_
       refine aj rfl rfl rfl ?_
       refine aj rfl rfl rfl ?_
       refine aj rfl rfl rfl ?_
       refine cj ?_
       refine dt [34] (by kernel_rfl) (by simp) ?_
       refine dw ?_ ?_
       ·refine f8 rfl rfl rfl ?_
        refine el [(35, none), (36, none), (37, none)] (fun i => [35, 36, 37].contains i) 0 (rl [38]) (by kernel_rfl) ?_
        refine aj rfl rfl rfl ?_
        refine aj rfl rfl rfl ?_
        refine af rfl rfl rfl rfl (bw rfl rfl (by constructor)) ?_
        refine cj ?_
        dsimp only [St.put]
        refine g9 (by kernel_rfl) ?_
        refine ⟨_, ?_, ⟨⟨rfl, rfl⟩, zF, zB, zN, zX⟩⟩
        simp_all [jh, gx, my]
        try (intro h0; omega)
       exact dv
      have s5 := hs
      refine af rfl rfl rfl rfl (cm rfl rfl (by constructor)) ?_
      refine xM rfl rfl rfl rfl rfl ?_
      refine xM rfl rfl rfl rfl rfl ?_
      refine af rfl rfl rfl rfl (gt rfl rfl rfl) ?_
      refine jx (fun hs => ?_) (fun hs => ?_)
      ·have s6 : 0 < i := by
        have := of_decide_eq_true hs
        omega
       obtain ⟨q0, hq0⟩ : ∃ q0, l[i - 1]? = some q0 := dh (by omega)
       refine xM rfl rfl rfl rfl rfl ?_
       refine xM rfl rfl rfl rfl rfl ?_
       refine xM rfl rfl rfl rfl rfl ?_
       refine af rfl rfl rfl rfl (gy rfl rfl rfl (by omega)) ?_
       try dsimp only [St.put]
       refine af rfl rfl rfl rfl (cb (k := i - 1) rfl rfl rfl (by omega) (bx hq0) (Enc.len _)) ?_
       try dsimp only [St.put]
       refine aw rfl rfl rfl rfl (dz rfl rfl (Enc.len _)) ?_
       refine xM rfl rfl rfl rfl rfl ?_
       refine xM rfl rfl rfl rfl rfl ?_
       try dsimp only [St.put]
       refine af rfl rfl rfl rfl (cb rfl rfl rfl rfl (bx (by assumption)) (Enc.len _)) ?_
       try dsimp only [St.put]
       refine aw rfl rfl rfl rfl (dz rfl rfl (Enc.len _)) ?_
       refine cj ?_
       refine dt [34] (by kernel_rfl) (by simp) ?_
       refine dw ?_ ?_
       ·try dsimp only [St.put]
        refine ix rfl rfl rfl (ay rfl rfl rfl (ugb q0 q) ?_)
        refine el [(35, none), (36, none), (37, none)] (fun i => [35, 36, 37].contains i) 0 (rl [38]) (by kernel_rfl) ?_
        refine af rfl rfl rfl rfl (d9 rfl rfl) ?_
        refine af rfl rfl rfl rfl (bw rfl rfl (by constructor)) ?_
        refine af rfl rfl rfl rfl (cm rfl rfl (by constructor)) ?_
        refine cj ?_
        dsimp only [St.put]
        refine g9 (by kernel_rfl) ?_
        refine ⟨_, ?_, ⟨⟨rfl, rfl⟩, zF, zB, zN, zX⟩⟩
        simp_all [jh, gx, my]
        try (intro h0; omega)
       exact dv
      have s6 : i = 0 := by
       have := of_decide_eq_false hs
       omega
      refine xM rfl rfl rfl rfl rfl ?_
      refine aj rfl rfl rfl ?_
      refine aj rfl rfl rfl ?_
      refine aj rfl rfl rfl ?_
      refine aj rfl rfl rfl ?_
      refine aj rfl rfl rfl ?_
      refine aj rfl rfl rfl ?_
      refine aj rfl rfl rfl ?_
      refine aj rfl rfl rfl ?_
      refine aj rfl rfl rfl ?_
      refine cj ?_
      refine dt [34] (by kernel_rfl) (by simp) ?_
      refine dw ?_ ?_
      ·refine f8 rfl rfl rfl ?_
       refine el [(35, none), (36, none), (37, none)] (fun i => [35, 36, 37].contains i) 0 (rl [38]) (by kernel_rfl) ?_
       refine aj rfl rfl rfl ?_
       refine af rfl rfl rfl rfl (cm rfl rfl (by constructor)) ?_
       refine af rfl rfl rfl rfl (cm rfl rfl (by constructor)) ?_
       refine cj ?_
       dsimp only [St.put]
       refine g9 (by kernel_rfl) ?_
       refine ⟨_, ?_, ⟨⟨rfl, rfl⟩, zF, zB, zN, zX⟩⟩
       simp_all [jh, gx, my]
       try (intro h0; omega)
      exact dv
     exact dv
    exact dv
   exact dv
  rintro d hst
  dsimp only at hst ⊢
  refine ar rfl (fun hc => ?_) (fun hc => ?_)
  ·skip
   refine yS fun _ K19 => ?_
   refine yR ?_
   refine yA rfl rfl ?_
   refine yN ?_
   dsimp only [St.put]
   refine K19 _ ?_
   refine aq ?_
   refine bg rfl (by constructor) zN zS ?_
   exact vb (by
    have e : jh t x l i = false := by rw [hst, hc]; rfl
    have : dq t x l l.length = false := by
     refine List.all_eq_false.2 ⟨i, List.mem_range.2 (by omega), by rw [e]; simp⟩
    simp [g8, this])
  skip
  refine ax ?_
  refine K17 _ ?_
  refine yR ?_
  refine yM rfl rfl ?_
  refine aa rfl (cg rfl rfl rfl (by omega)) ?_
  refine yA rfl rfl ?_
  refine yN ?_
  dsimp only [St.put]
  exact ⟨i + 1, by omega, ⟨by omega, by rw [gu, hI.2, hst, hc]; rfl⟩, ⟨⟨rfl, rfl⟩, zF, zB, zN, zX⟩⟩
 replace hc := of_decide_eq_false hc
 obtain rfl : i = l.length := by omega
 refine dg ?_
 refine K13 _ ?_
 refine yS fun _ K20 => ?_
 refine yR ?_
 refine yA rfl rfl ?_
 refine yN ?_
 dsimp only [St.put]
 refine K20 _ ?_
 refine aq ?_
 refine bg rfl (by constructor) zN zS ?_
 exact vb (by
  unfold g8
  rw [hI.2, Bool.and_true]
  first
  | exact s3.symm
  | (have e1 : 0 ≤ r := by omega
     simp [e1]))
end Go.Proofs.YtbbdginipiljdaaDoor
namespace Go.AB
open Go Go.RowKit
open Go.AB.Enc (cells)
open Go.PB (av ai PlaceD az bf ba bh am ah ck bk c4 c6)
def mo (p : ah) (last : Int) (x : am) : Bool := decide (last < x.fr) && decide (x.fr ≤ x.to) && decide (x.to < (mj p.text : Int)) && inB x.fst (-1) ((p.firsts.length : Int) - 1) && inB x.snd (-1) ((p.seconds.length : Int) - 1)
theorem vy (p : ah) (last : Int) (x : am) : l7 p last x = (mo p last x && (g8 p.text x x.fst x.found && g8 p.text x x.snd x.well)) := by
 unfold l7 mo
 cases decide (last < x.fr) <;> cases decide (x.fr ≤ x.to) <;> cases decide (x.to < (mj p.text : Int)) <;> cases inB x.fst (-1) ((p.firsts.length : Int) - 1) <;> cases inB x.snd (-1) ((p.seconds.length : Int) - 1) <;> simp
theorem yx {p : ah} {j : Nat} {x : am} (h : p.pages[j]? = some x) : rh p j = l7 p (ib p.pages j) x := by unfold rh; rw [h]
theorem udq {l : List am} {j : Nat} {x : am} (h : l[j]? = some x) : ib l (j + 1) = x.to := by simp only [ib, h]
theorem vx {p : ah} {j : Nat} {x : am} (h : p.pages[j]? = some x) (hb : l7 p (ib p.pages j) x = false) : fq p = false := by
 have : pg p p.pages.length = false := List.all_eq_false.2 ⟨j, List.mem_range.2 (List.getElem?_eq_some_iff.1 h).1, by rw [yx h, hb]; simp⟩
 simp [fq, this]
end Go.AB
namespace Go.Proofs.YtbbdginipiljdaaDoor
set_option maxRecDepth 10000
open Go.RowKit Go.AB
open Go.AB.Enc (cells)
open Go.PB (av ai PlaceD az bf ba bh am ah ck bk c4 c6)
set_option maxHeartbeats 2000000 in
theorem ui4 (p : ah) (ht : dr p.text = true) : Pure Tryd.prog 47 [val p] (.v (.bool (fq p))) := by
 refine cy Tryd.func47 rfl (fun m => .v) fun G nx => ?_
 simp only [Tryd.ntmps47, List.length_cons, List.length_nil, Nat.reduceAdd, Nat.reduceSub]
 refine bu fun hlt => ?_
 dsimp only at hlt
 refine yS fun _ K1 => ?_
 refine yR ?_
 try dsimp only [St.put]
 refine yB rfl rfl rfl ?_
 refine yA rfl rfl ?_
 refine yN ?_
 dsimp only [St.put]
 refine K1 _ ?_
 refine yS fun _ K2 => ?_
 refine yS fun _ K3 => ?_
 refine yR ?_
 refine yF rfl rfl rfl rfl ?_
 refine yL rfl rfl rfl ?_
 refine aa rfl (bn rfl rfl (List.length_map _)) ?_
 refine aa rfl (gt rfl rfl rfl) ?_
 refine et (fun hs => ?_) (fun hs => ?_)
 ·have s1 : ¬ p.firsts.length ≤ 3 := by
   have := of_decide_eq_true hs
   omega
  refine yM rfl rfl ?_
  refine yK rfl ?_
  refine yK rfl ?_
  refine yK rfl ?_
  refine yK rfl ?_
  refine aa rfl (bw rfl rfl (by constructor)) ?_
  refine yM rfl rfl ?_
  refine yK rfl ?_
  refine yK rfl ?_
  refine yK rfl ?_
  refine yK rfl ?_
  refine aa rfl (bw rfl rfl (by constructor)) ?_
  refine yN ?_
  dsimp only [St.put]
  refine K3 _ ?_
  refine ar rfl (fun _ => ?_) (fun h => by cases h)
  refine yS fun _ K4 => ?_
  refine yR ?_
  refine yA rfl rfl ?_
  refine yN ?_
  dsimp only [St.put]
  refine K4 _ ?_
  refine aq ?_
  refine bg rfl (by constructor) zN zS ?_
  exact vb (by first | (simp [fq, jf, s1]; done) | (simp [fq, jf, s2]; done) | (simp [fq, s3]; done))
 have s1 : p.firsts.length ≤ 3 := by
  have := of_decide_eq_false hs
  omega
 refine yM rfl rfl ?_
 refine yF rfl rfl rfl rfl ?_
 refine yL rfl rfl rfl ?_
 refine aa rfl (bn rfl rfl (List.length_map _)) ?_
 refine aa rfl (gt rfl rfl rfl) ?_
 refine et (fun hs => ?_) (fun hs => ?_)
 ·have s2 : ¬ p.seconds.length ≤ 3 := by
   have := of_decide_eq_true hs
   omega
  refine aa rfl (cm rfl rfl (by constructor)) ?_
  refine yM rfl rfl ?_
  refine yK rfl ?_
  refine yK rfl ?_
  refine yK rfl ?_
  refine yK rfl ?_
  refine aa rfl (bw rfl rfl (by constructor)) ?_
  refine yN ?_
  dsimp only [St.put]
  refine K3 _ ?_
  refine ar rfl (fun _ => ?_) (fun h => by cases h)
  refine yS fun _ K5 => ?_
  refine yR ?_
  refine yA rfl rfl ?_
  refine yN ?_
  dsimp only [St.put]
  refine K5 _ ?_
  refine aq ?_
  refine bg rfl (by constructor) zN zS ?_
  exact vb (by first | (simp [fq, jf, s1]; done) | (simp [fq, jf, s2]; done) | (simp [fq, s3]; done))
 have s2 : p.seconds.length ≤ 3 := by
  have := of_decide_eq_false hs
  omega
 refine aa rfl (cm rfl rfl (by constructor)) ?_
 refine yM rfl rfl ?_
 refine yF rfl rfl rfl rfl ?_
 refine yL rfl rfl rfl ?_
 refine aa rfl (bn rfl rfl (List.length_map _)) ?_
 refine aa rfl (gt rfl rfl rfl) ?_
 refine et (fun hs => ?_) (fun hs => ?_)
 ·have s3 : ¬ p.pages.length ≤ 8 := by
   have := of_decide_eq_true hs
   omega
  refine aa rfl (cm rfl rfl (by constructor)) ?_
  refine yN ?_
  dsimp only [St.put]
  refine K3 _ ?_
  refine ar rfl (fun _ => ?_) (fun h => by cases h)
  refine yS fun _ K6 => ?_
  refine yR ?_
  refine yA rfl rfl ?_
  refine yN ?_
  dsimp only [St.put]
  refine K6 _ ?_
  refine aq ?_
  refine bg rfl (by constructor) zN zS ?_
  exact vb (by first | (simp [fq, jf, s1]; done) | (simp [fq, jf, s2]; done) | (simp [fq, s3]; done))
 have s3 : p.pages.length ≤ 8 := by
  have := of_decide_eq_false hs
  omega
 obtain ⟨A, hA⟩ : ∃ A, p.firsts ++ p.seconds = A := ⟨_, rfl⟩
 have hAl : A.length ≤ 6 := by rw [← hA, List.length_append]; omega
 refine aa rfl (cm rfl rfl (by constructor)) ?_
 refine yN ?_
 dsimp only [St.put]
 refine K3 _ ?_
 refine ar rfl (fun h => by cases h) (fun _ => ?_)
 refine ax ?_
 refine K2 _ ?_
 refine yS fun _ K7 => ?_
 refine yR ?_
 refine yA rfl rfl ?_
 refine yN ?_
 dsimp only [St.put]
 refine K7 _ ?_
 refine ufu 3 66 2 rfl (by decide) ?_
 refine yS fun _ K8 => ?_
 refine gm [(0, none), (1, none), (2, none), (4, none), (5, none), (3, none), (6, none), (7, none)] (fun i => [6].contains i) (fun i => [3, 6].contains i) (fun i => [0, 1, 4, 7].contains i) [] (by kernel_rfl) (by kernel_rfl) ?_
 refine xM rfl rfl rfl rfl rfl ?_
 refine af rfl rfl rfl rfl (bz rfl rfl rfl) ?_
 try dsimp only [St.put]
 refine aw rfl rfl rfl rfl (bq rfl rfl) ?_
 refine af rfl rfl rfl rfl (bz rfl rfl rfl) ?_
 try dsimp only [St.put]
 refine aw rfl rfl rfl rfl (bq rfl rfl) ?_
 refine iz ?_
 try dsimp only [St.put]
 refine i0 rfl rfl rfl (o1 (xs := ([] : List bh)) p.firsts rfl rfl zG rfl rfl rfl rfl zA zA (fun v1 => ⟨zD, ?_⟩))
 try dsimp only [St.put]
 refine i0 rfl rfl rfl (o1 (xs := ([] : List bh) ++ p.firsts) p.seconds rfl rfl zG rfl rfl rfl rfl zA zA (fun v2 => ⟨zD, ?_⟩))
 refine ec rfl rfl rfl rfl (dn rfl (by constructor)) ?_
 refine iy ?_
 dsimp only [St.put]
 refine K8 _ ?_
 refine uai 3 (([] : List bh) ++ p.firsts ++ p.seconds) rfl zG rfl rfl rfl ?_
 refine dl G zX ?_
 dsimp only
 rw [show ([] : List bh) ++ p.firsts ++ p.seconds = A from hA]
 refine yS fun _ K9 => ?_
 refine yS fun _ K10 => ?_
 refine yR ?_
 refine yA rfl rfl ?_
 refine yN ?_
 dsimp only [St.put]
 refine K10 _ ?_
 refine bj ?_
 refine cp 9 ?_
 refine zQ ?_
 refine dl (G) zX ?_
 dsimp only
 refine dj (X := Nat) (fun i => i ≤ A.length ∧ (A.take i).all fy = true ∧ ((A.take i).map (·.id)).Nodup) (fun i => A.length - i) (fun i => [(4, .v (.int .i64 (i : Int))), (5, .any)]) (fun i G' => G') 0 rfl ?_ ?_ (fun _ _ h => h) ?_ ?_ ?_
 ·exact ⟨Nat.zero_le _, rfl, by simp⟩
 ·exact zF
 ·rintro i hI
  exact zL
 ·exact fun _ _ _ _ h => .inl h
 rintro i hI
 dsimp only at hI ⊢
 refine yS fun _ K11 => ?_
 refine yS fun _ K12 => ?_
 refine yR ?_
 refine yM rfl rfl ?_
 refine yM rfl rfl ?_
 refine aa rfl (bn rfl rfl (List.length_map _)) ?_
 refine aa rfl (cn rfl rfl rfl) ?_
 refine yN ?_
 dsimp only [St.put]
 refine K12 _ ?_
 refine ar rfl (fun hc => ?_) (fun hc => ?_)
 ·replace hc := of_decide_eq_true hc
  obtain ⟨r, hr⟩ : ∃ r, A[i]? = some r := dh (by omega)
  refine ax ?_
  refine K11 _ ?_
  refine yS fun _ K13 => ?_
  refine bj ?_
  refine yS fun _ K14 => ?_
  refine yS fun _ K15 => ?_
  refine yR ?_
  refine yM rfl rfl ?_
  refine yM rfl rfl ?_
  refine aa rfl (cb rfl rfl rfl rfl (bx (by assumption)) (Enc.len _)) ?_
  refine yF rfl rfl rfl rfl ?_
  refine yL rfl rfl rfl ?_
  try dsimp only [St.put]
  refine ae rfl (ay rfl rfl rfl (rf _ _ _) ?_)
  refine aa rfl (d9 rfl rfl) ?_
  refine et (fun hs => ?_) (fun hs => ?_)
  ·have q1 : inB r.id 0 9999 = false := by simpa using hs
   refine yM rfl rfl ?_
   refine yK rfl ?_
   refine yK rfl ?_
   refine yK rfl ?_
   refine yK rfl ?_
   refine yK rfl ?_
   refine yK rfl ?_
   refine yK rfl ?_
   refine aa rfl (bw rfl rfl (by constructor)) ?_
   refine yN ?_
   dsimp only [St.put]
   refine K15 _ ?_
   refine ar rfl (fun _ => ?_) (fun h => by cases h)
   refine yS fun _ K16 => ?_
   refine yR ?_
   refine yA rfl rfl ?_
   refine yN ?_
   dsimp only [St.put]
   refine K16 _ ?_
   refine aq ?_
   refine bg rfl (by constructor) zN zS ?_
   exact vb (by
    have hb : fy r = false := by first | (simp [fy, q1]; done) | (simp [fy, q2]; done)
    have : A.all fy = false := kh hr hb
    rw [← hA] at this
    simp only [fq, jf, this, Bool.and_false, Bool.false_and])
  have q1 : inB r.id 0 9999 = true := by simpa using hs
  refine yM rfl rfl ?_
  refine yM rfl rfl ?_
  refine yM rfl rfl ?_
  refine aa rfl (cb rfl rfl rfl rfl (bx (by assumption)) (Enc.len _)) ?_
  refine yF rfl rfl rfl rfl ?_
  refine yL rfl rfl rfl ?_
  try dsimp only [St.put]
  refine ae rfl (ay rfl rfl rfl (rf _ _ _) ?_)
  refine aa rfl (d9 rfl rfl) ?_
  refine et (fun hs => ?_) (fun hs => ?_)
  ·have q2 : inB r.miss 0 90 = false := by simpa using hs
   refine aa rfl (cm rfl rfl (by constructor)) ?_
   refine yN ?_
   dsimp only [St.put]
   refine K15 _ ?_
   refine ar rfl (fun _ => ?_) (fun h => by cases h)
   refine yS fun _ K17 => ?_
   refine yR ?_
   refine yA rfl rfl ?_
   refine yN ?_
   dsimp only [St.put]
   refine K17 _ ?_
   refine aq ?_
   refine bg rfl (by constructor) zN zS ?_
   exact vb (by
    have hb : fy r = false := by first | (simp [fy, q1]; done) | (simp [fy, q2]; done)
    have : A.all fy = false := kh hr hb
    rw [← hA] at this
    simp only [fq, jf, this, Bool.and_false, Bool.false_and])
  have q2 : inB r.miss 0 90 = true := by simpa using hs
  have hrb : fy r = true := by simp [fy, q1, q2]
  refine aa rfl (cm rfl rfl (by constructor)) ?_
  refine yN ?_
  dsimp only [St.put]
  refine K15 _ ?_
  refine ar rfl (fun h => by cases h) (fun _ => ?_)
  refine ax ?_
  refine K14 _ ?_
  refine yS fun _ K18 => ?_
  refine yR ?_
  refine yA rfl rfl ?_
  refine yN ?_
  dsimp only [St.put]
  refine K18 _ ?_
  refine bj ?_
  refine cp 9 ?_
  refine zQ ?_
  refine dl (G) zX ?_
  dsimp only
  refine dj (X := Nat) (fun k => k ≤ i ∧ ∀ y ∈ A.take k, y.id ≠ r.id) (fun k => i - k) (fun k => [(5, .v (.int .i64 (k : Int)))]) (fun k G' => G') 0 rfl ?_ ?_ (fun _ _ h => h) ?_ ?_ ?_
  ·exact ⟨Nat.zero_le _, by simp⟩
  ·exact zF
  ·rintro k hI
   exact zL
  ·exact fun _ _ _ _ h => .inl h
  rintro k hJ
  dsimp only at hJ ⊢
  refine yS fun _ K19 => ?_
  refine yS fun _ K20 => ?_
  refine yR ?_
  refine yM rfl rfl ?_
  refine yM rfl rfl ?_
  refine aa rfl (cn rfl rfl rfl) ?_
  refine yN ?_
  dsimp only [St.put]
  refine K20 _ ?_
  refine ar rfl (fun hc => ?_) (fun hc => ?_)
  ·replace hc := of_decide_eq_true hc
   obtain ⟨y, hy⟩ : ∃ y, A[k]? = some y := dh (by omega)
   refine ax ?_
   refine K19 _ ?_
   refine yS fun _ K21 => ?_
   refine bj ?_
   refine yS fun _ K22 => ?_
   refine gm [(0, none), (1, none), (2, none), (3, none), (4, none), (5, none), (6, none), (7, none), (8, none), (9, none), (10, none)] (fun i => [].contains i) (fun i => [].contains i) (fun i => [0, 1, 2, 3, 5, 6, 7, 8, 10].contains i) [] (by kernel_rfl) (by kernel_rfl) ?_
   refine xM rfl rfl rfl rfl rfl ?_
   refine xM rfl rfl rfl rfl rfl ?_
   try dsimp only [St.put]
   refine af rfl rfl rfl rfl (cb rfl rfl rfl rfl (bx (by assumption)) (Enc.len _)) ?_
   refine af rfl rfl rfl rfl (bz rfl rfl rfl) ?_
   try dsimp only [St.put]
   refine aw rfl rfl rfl rfl (bq rfl rfl) ?_
   refine xM rfl rfl rfl rfl rfl ?_
   refine xM rfl rfl rfl rfl rfl ?_
   try dsimp only [St.put]
   refine af rfl rfl rfl rfl (cb rfl rfl rfl rfl (bx (by assumption)) (Enc.len _)) ?_
   refine af rfl rfl rfl rfl (bz rfl rfl rfl) ?_
   try dsimp only [St.put]
   refine aw rfl rfl rfl rfl (bq rfl rfl) ?_
   refine af rfl rfl rfl rfl (ff rfl rfl rfl) ?_
   refine cj ?_
   dsimp only [St.put]
   refine K22 _ ?_
   refine ar rfl (fun hc => ?_) (fun hc => ?_)
   ·have hyr : y.id = r.id := of_decide_eq_true hc
    refine yS fun _ K23 => ?_
    refine yR ?_
    refine yA rfl rfl ?_
    refine yN ?_
    dsimp only [St.put]
    refine K23 _ ?_
    refine aq ?_
    refine bg rfl (by constructor) zN zS ?_
    exact vb (by
     have : ¬ (A.map (·.id)).Nodup := zb hy hr (by omega) hyr
     rw [← hA] at this
     simp only [fq, jf, decide_eq_false this, Bool.and_false, Bool.false_and])
   have hne : y.id ≠ r.id := of_decide_eq_false hc
   refine ax ?_
   refine K21 _ ?_
   refine yR ?_
   refine yM rfl rfl ?_
   refine aa rfl (cg rfl rfl rfl (by omega)) ?_
   refine yA rfl rfl ?_
   refine yN ?_
   dsimp only [St.put]
   exact ⟨k + 1, by omega, ⟨by omega, udc (p := fun y : bh => y.id ≠ r.id) hy hne hJ.2⟩, ⟨⟨rfl, rfl⟩, zF, zB, zN, zX⟩⟩
  replace hc := of_decide_eq_false hc
  have hki : k = i := by omega
  rw [hki] at hJ
  have hnd : r.id ∉ (A.take i).map (·.id) := fun hm => by
   obtain ⟨y, hy1, hy2⟩ := List.mem_map.1 hm
   exact hJ.2 y hy1 hy2
  refine dg ?_
  refine K13 _ ?_
  refine yR ?_
  refine yM rfl rfl ?_
  refine aa rfl (cg rfl rfl rfl (by omega)) ?_
  refine yA rfl rfl ?_
  refine yN ?_
  dsimp only [St.put]
  exact ⟨i + 1, by omega, ⟨by omega, by rw [qq hr, hI.2.1, hrb]; rfl, by rw [pi hr]; exact zc hI.2.2 hnd⟩, ⟨⟨rfl, rfl⟩, zF, zB, zN, zX⟩⟩
 replace hc := of_decide_eq_false hc
 have hRB : jf p = true := by
  have h1 := hI.2.1
  have h2 := hI.2.2
  rw [gq (show A.length ≤ i by omega), ← hA] at h1 h2
  unfold jf
  rw [h1, decide_eq_true h2, decide_eq_true s1, decide_eq_true s2]; rfl
 refine dg ?_
 refine K9 _ ?_
 refine yS fun _ K24 => ?_
 refine yR ?_
 refine yA rfl rfl ?_
 refine yN ?_
 dsimp only [St.put]
 refine K24 _ ?_
 refine yS fun _ K25 => ?_
 refine yS fun _ K26 => ?_
 refine yR ?_
 refine yA rfl rfl ?_
 refine yN ?_
 dsimp only [St.put]
 refine K26 _ ?_
 refine bj ?_
 refine cp 9 ?_
 refine zQ ?_
 refine dl (G) zX ?_
 dsimp only
 refine dj (X := Nat) (fun j => j ≤ p.pages.length ∧ pg p j = true) (fun j => p.pages.length - j) (fun j => [(6, .v (.int .i64 (ib p.pages j))), (7, .v (.int .i64 (j : Int))), (8, .any)]) (fun j G' => G') 0 rfl ?_ ?_ (fun _ _ h => h) ?_ ?_ ?_
 ·exact ⟨Nat.zero_le _, rfl⟩
 ·exact zF
 ·rintro j hI
  exact zL
 ·exact fun _ _ _ _ h => .inl h
 rintro j hK
 dsimp only at hK ⊢
 refine yS fun _ K27 => ?_
 refine yS fun _ K28 => ?_
 refine yR ?_
 refine yM rfl rfl ?_
 refine yF rfl rfl rfl rfl ?_
 refine yL rfl rfl rfl ?_
 refine aa rfl (bn rfl rfl (List.length_map _)) ?_
 refine aa rfl (cn rfl rfl rfl) ?_
 refine yN ?_
 dsimp only [St.put]
 refine K28 _ ?_
 refine ar rfl (fun hc => ?_) (fun hc => ?_)
 ·replace hc := of_decide_eq_true hc
  obtain ⟨x, hx⟩ : ∃ x, p.pages[j]? = some x := dh (by omega)
  refine ax ?_
  refine K27 _ ?_
  refine yS fun _ K29 => ?_
  refine bj ?_
  refine yS fun _ K30 => ?_
  refine yR ?_
  refine yF rfl rfl rfl rfl ?_
  refine yL rfl rfl rfl ?_
  refine yM rfl rfl ?_
  refine aa rfl (cb rfl rfl rfl rfl (bx (by assumption)) (Enc.len _)) ?_
  refine yE rfl rfl rfl ?_
  try dsimp only [St.put]
  refine ae rfl (cz rfl ?_)
  try dsimp only [St.put]
  refine ae rfl (co rfl rfl rfl zG rfl rfl (by rfl) ?_)
  refine yN ?_
  dsimp only [St.put]
  refine K30 _ ?_
  refine eu (i := 8) rfl zG zC ?_
  dsimp only
  refine yS fun _ K31 => ?_
  refine cp 9 ?_
  refine zQ ?_
  refine lx (X := Bool) (fun d => mo p (ib p.pages j) x = !d) (fun d => [(120, .v (.bool d))]) (fun d G' => G') rfl ?_ (fun _ _ _ _ h => .inl h) ?_ ?_
  ·rintro d hI
   exact zL
  ·refine qn [(0, none), (1, none), (2, none), (3, none), (4, none), (5, none), (6, none), (7, none), (8, none), (9, none), (10, none), (11, none), (12, none), (13, none), (14, none), (15, none)] (fun _ => false) (fun i => [0, 2, 3, 4, 5, 7, 9, 10, 11, 12, 14].contains i) 23 (rl [16, 23]) (by kernel_rfl) (by kernel_rfl) ?_
   refine af rfl rfl rfl rfl (bz rfl rfl rfl) ?_
   try dsimp only [St.put]
   refine aw rfl rfl rfl rfl (bq rfl rfl) ?_
   refine xM rfl rfl rfl rfl rfl ?_
   refine af rfl rfl rfl rfl (tw rfl rfl rfl) ?_
   refine jx (fun hs => ?_) (fun hs => ?_)
   ·have z1 : x.fr ≤ ib p.pages j := of_decide_eq_true hs
    refine xM rfl rfl rfl rfl rfl ?_
    refine aj rfl rfl rfl ?_
    refine aj rfl rfl rfl ?_
    refine aj rfl rfl rfl ?_
    refine aj rfl rfl rfl ?_
    refine aj rfl rfl rfl ?_
    refine af rfl rfl rfl rfl (bw rfl rfl (by constructor)) ?_
    refine xM rfl rfl rfl rfl rfl ?_
    refine aj rfl rfl rfl ?_
    refine aj rfl rfl rfl ?_
    refine aj rfl rfl rfl ?_
    refine aj rfl rfl rfl ?_
    refine cj ?_
    refine dt [16] (by kernel_rfl) (by simp) ?_
    refine dw ?_ ?_
    ·refine f8 rfl rfl rfl ?_
     refine el [(17, none), (18, none), (19, none), (20, none), (21, none), (22, none), (23, none), (24, none), (25, none)] (fun i => [17, 18, 19, 20, 22, 24, 25].contains i) 13 (rl [26, 13]) (by kernel_rfl) ?_
     refine aj rfl rfl rfl ?_
     refine af rfl rfl rfl rfl (bw rfl rfl (by constructor)) ?_
     refine xM rfl rfl rfl rfl rfl ?_
     refine aj rfl rfl rfl ?_
     refine aj rfl rfl rfl ?_
     refine aj rfl rfl rfl ?_
     refine aj rfl rfl rfl ?_
     refine aj rfl rfl rfl ?_
     refine aj rfl rfl rfl ?_
     refine cj ?_
     refine dt [26] (by kernel_rfl) (by simp) ?_
     refine dw ?_ ?_
     ·refine f8 rfl rfl rfl ?_
      refine el [(27, none), (28, none), (29, none), (30, none), (31, none), (32, none), (33, none), (34, none), (35, none)] (fun i => [27, 28, 29, 30, 32, 34, 35].contains i) 3 (rl [36, 3]) (by kernel_rfl) ?_
      refine aj rfl rfl rfl ?_
      refine af rfl rfl rfl rfl (bw rfl rfl (by constructor)) ?_
      refine xM rfl rfl rfl rfl rfl ?_
      refine aj rfl rfl rfl ?_
      refine aj rfl rfl rfl ?_
      refine aj rfl rfl rfl ?_
      refine aj rfl rfl rfl ?_
      refine aj rfl rfl rfl ?_
      refine aj rfl rfl rfl ?_
      refine cj ?_
      refine dt [36] (by kernel_rfl) (by simp) ?_
      refine dw ?_ ?_
      ·refine f8 rfl rfl rfl ?_
       refine el [(37, none), (38, none)] (fun i => [37, 38].contains i) 0 (rl [39]) (by kernel_rfl) ?_
       refine aj rfl rfl rfl ?_
       refine af rfl rfl rfl rfl (bw rfl rfl (by constructor)) ?_
       refine cj ?_
       dsimp only [St.put]
       refine g9 (by kernel_rfl) ?_
       refine ⟨_, ?_, ⟨⟨rfl, rfl⟩, zF, zB, zN, zX⟩⟩
       simp_all [mo]
       try (intro h0; omega)
      exact dv
     exact dv
    exact dv
   have z1 : ¬ x.fr ≤ ib p.pages j := of_decide_eq_false hs
   refine xM rfl rfl rfl rfl rfl ?_
   refine af rfl rfl rfl rfl (bz rfl rfl rfl) ?_
   try dsimp only [St.put]
   refine aw rfl rfl rfl rfl (bq rfl rfl) ?_
   refine af rfl rfl rfl rfl (bz rfl rfl rfl) ?_
   try dsimp only [St.put]
   refine aw rfl rfl rfl rfl (bq rfl rfl) ?_
   refine af rfl rfl rfl rfl (cn rfl rfl rfl) ?_
   refine jx (fun hs => ?_) (fun hs => ?_)
   ·have z2 : x.to < x.fr := of_decide_eq_true hs
    refine af rfl rfl rfl rfl (cm rfl rfl (by constructor)) ?_
    refine xM rfl rfl rfl rfl rfl ?_
    refine aj rfl rfl rfl ?_
    refine aj rfl rfl rfl ?_
    refine aj rfl rfl rfl ?_
    refine aj rfl rfl rfl ?_
    refine cj ?_
    refine dt [16] (by kernel_rfl) (by simp) ?_
    refine dw ?_ ?_
    ·refine f8 rfl rfl rfl ?_
     refine el [(17, none), (18, none), (19, none), (20, none), (21, none), (22, none), (23, none), (24, none), (25, none)] (fun i => [17, 18, 19, 20, 22, 24, 25].contains i) 13 (rl [26, 13]) (by kernel_rfl) ?_
     refine aj rfl rfl rfl ?_
     refine af rfl rfl rfl rfl (bw rfl rfl (by constructor)) ?_
     refine xM rfl rfl rfl rfl rfl ?_
     refine aj rfl rfl rfl ?_
     refine aj rfl rfl rfl ?_
     refine aj rfl rfl rfl ?_
     refine aj rfl rfl rfl ?_
     refine aj rfl rfl rfl ?_
     refine aj rfl rfl rfl ?_
     refine cj ?_
     refine dt [26] (by kernel_rfl) (by simp) ?_
     refine dw ?_ ?_
     ·refine f8 rfl rfl rfl ?_
      refine el [(27, none), (28, none), (29, none), (30, none), (31, none), (32, none), (33, none), (34, none), (35, none)] (fun i => [27, 28, 29, 30, 32, 34, 35].contains i) 3 (rl [36, 3]) (by kernel_rfl) ?_
      refine aj rfl rfl rfl ?_
      refine af rfl rfl rfl rfl (bw rfl rfl (by constructor)) ?_
      refine xM rfl rfl rfl rfl rfl ?_
      refine aj rfl rfl rfl ?_
      refine aj rfl rfl rfl ?_
      refine aj rfl rfl rfl ?_
      refine aj rfl rfl rfl ?_
      refine aj rfl rfl rfl ?_
      refine aj rfl rfl rfl ?_
      refine cj ?_
      refine dt [36] (by kernel_rfl) (by simp) ?_
      refine dw ?_ ?_
      ·refine f8 rfl rfl rfl ?_
       refine el [(37, none), (38, none)] (fun i => [37, 38].contains i) 0 (rl [39]) (by kernel_rfl) ?_
       refine aj rfl rfl rfl ?_
       refine af rfl rfl rfl rfl (bw rfl rfl (by constructor)) ?_
       refine cj ?_
       dsimp only [St.put]
       refine g9 (by kernel_rfl) ?_
       refine ⟨_, ?_, ⟨⟨rfl, rfl⟩, zF, zB, zN, zX⟩⟩
       simp_all [mo]
       try (intro h0; omega)
      exact dv
     exact dv
    exact dv
   have z2 : ¬ x.to < x.fr := of_decide_eq_false hs
   refine af rfl rfl rfl rfl (cm rfl rfl (by constructor)) ?_
   refine xM rfl rfl rfl rfl rfl ?_
   refine af rfl rfl rfl rfl (bz rfl rfl rfl) ?_
   try dsimp only [St.put]
   refine aw rfl rfl rfl rfl (bq rfl rfl) ?_
   refine af rfl rfl rfl rfl (bz rfl rfl rfl) ?_
   try dsimp only [St.put]
   refine aw rfl rfl rfl rfl (c := gp p.text) (jq (cs := cells p) rfl rfl (show 1 ≤ 4 by decide)) ?_
   refine cj ?_
   refine dt [16] (by kernel_rfl) (by simp) ?_
   refine dw ?_ ?_
   ·try dsimp only [St.put]
    refine ix rfl rfl rfl (ay rfl rfl rfl (ui2 p.text ht) ?_)
    refine el [(17, none), (18, none), (19, none), (20, none), (21, none), (22, none), (23, none), (24, none), (25, none)] (fun i => [17, 18, 19, 20, 22, 24, 25].contains i) 13 (rl [26, 13]) (by kernel_rfl) ?_
    refine af rfl rfl rfl rfl (ou rfl rfl rfl) ?_
    refine jx (fun hs => ?_) (fun hs => ?_)
    ·have z3 : (mj p.text : Int) ≤ x.to := of_decide_eq_true hs
     refine af rfl rfl rfl rfl (cm rfl rfl (by constructor)) ?_
     refine xM rfl rfl rfl rfl rfl ?_
     refine aj rfl rfl rfl ?_
     refine aj rfl rfl rfl ?_
     refine aj rfl rfl rfl ?_
     refine aj rfl rfl rfl ?_
     refine aj rfl rfl rfl ?_
     refine aj rfl rfl rfl ?_
     refine cj ?_
     refine dt [26] (by kernel_rfl) (by simp) ?_
     refine dw ?_ ?_
     ·refine f8 rfl rfl rfl ?_
      refine el [(27, none), (28, none), (29, none), (30, none), (31, none), (32, none), (33, none), (34, none), (35, none)] (fun i => [27, 28, 29, 30, 32, 34, 35].contains i) 3 (rl [36, 3]) (by kernel_rfl) ?_
      refine aj rfl rfl rfl ?_
      refine af rfl rfl rfl rfl (bw rfl rfl (by constructor)) ?_
      refine xM rfl rfl rfl rfl rfl ?_
      refine aj rfl rfl rfl ?_
      refine aj rfl rfl rfl ?_
      refine aj rfl rfl rfl ?_
      refine aj rfl rfl rfl ?_
      refine aj rfl rfl rfl ?_
      refine aj rfl rfl rfl ?_
      refine cj ?_
      refine dt [36] (by kernel_rfl) (by simp) ?_
      refine dw ?_ ?_
      ·refine f8 rfl rfl rfl ?_
       refine el [(37, none), (38, none)] (fun i => [37, 38].contains i) 0 (rl [39]) (by kernel_rfl) ?_
       refine aj rfl rfl rfl ?_
       refine af rfl rfl rfl rfl (bw rfl rfl (by constructor)) ?_
       refine cj ?_
       dsimp only [St.put]
       refine g9 (by kernel_rfl) ?_
       refine ⟨_, ?_, ⟨⟨rfl, rfl⟩, zF, zB, zN, zX⟩⟩
       simp_all [mo]
       try (intro h0; omega)
      exact dv
     exact dv
    have z3 : ¬ (mj p.text : Int) ≤ x.to := of_decide_eq_false hs
    refine af rfl rfl rfl rfl (cm rfl rfl (by constructor)) ?_
    refine xM rfl rfl rfl rfl rfl ?_
    refine af rfl rfl rfl rfl (bz rfl rfl rfl) ?_
    try dsimp only [St.put]
    refine aw rfl rfl rfl rfl (bq rfl rfl) ?_
    refine af rfl rfl rfl rfl (bz rfl rfl rfl) ?_
    try dsimp only [St.put]
    refine aw rfl rfl rfl rfl (bq rfl rfl) ?_
    refine af rfl rfl rfl rfl (bn rfl rfl (List.length_map _)) ?_
    refine af rfl rfl rfl rfl (gy rfl rfl rfl (by omega)) ?_
    refine cj ?_
    refine dt [26] (by kernel_rfl) (by simp) ?_
    refine dw ?_ ?_
    ·try dsimp only [St.put]
     refine ix rfl rfl rfl (ay rfl rfl rfl (rf _ _ _) ?_)
     refine el [(27, none), (28, none), (29, none), (30, none), (31, none), (32, none), (33, none), (34, none), (35, none)] (fun i => [27, 28, 29, 30, 32, 34, 35].contains i) 3 (rl [36, 3]) (by kernel_rfl) ?_
     refine af rfl rfl rfl rfl (d9 rfl rfl) ?_
     refine jx (fun hs => ?_) (fun hs => ?_)
     ·have z4 : inB x.fst (-1) ((p.firsts.length : Int) - 1) = false := by simpa using hs
      refine af rfl rfl rfl rfl (cm rfl rfl (by constructor)) ?_
      refine xM rfl rfl rfl rfl rfl ?_
      refine aj rfl rfl rfl ?_
      refine aj rfl rfl rfl ?_
      refine aj rfl rfl rfl ?_
      refine aj rfl rfl rfl ?_
      refine aj rfl rfl rfl ?_
      refine aj rfl rfl rfl ?_
      refine cj ?_
      refine dt [36] (by kernel_rfl) (by simp) ?_
      refine dw ?_ ?_
      ·refine f8 rfl rfl rfl ?_
       refine el [(37, none), (38, none)] (fun i => [37, 38].contains i) 0 (rl [39]) (by kernel_rfl) ?_
       refine aj rfl rfl rfl ?_
       refine af rfl rfl rfl rfl (bw rfl rfl (by constructor)) ?_
       refine cj ?_
       dsimp only [St.put]
       refine g9 (by kernel_rfl) ?_
       refine ⟨_, ?_, ⟨⟨rfl, rfl⟩, zF, zB, zN, zX⟩⟩
       simp_all [mo]
       try (intro h0; omega)
      exact dv
     have z4 : inB x.fst (-1) ((p.firsts.length : Int) - 1) = true := by simpa using hs
     refine af rfl rfl rfl rfl (cm rfl rfl (by constructor)) ?_
     refine xM rfl rfl rfl rfl rfl ?_
     refine af rfl rfl rfl rfl (bz rfl rfl rfl) ?_
     try dsimp only [St.put]
     refine aw rfl rfl rfl rfl (bq rfl rfl) ?_
     refine af rfl rfl rfl rfl (bz rfl rfl rfl) ?_
     try dsimp only [St.put]
     refine aw rfl rfl rfl rfl (bq rfl rfl) ?_
     refine af rfl rfl rfl rfl (bn rfl rfl (List.length_map _)) ?_
     refine af rfl rfl rfl rfl (gy rfl rfl rfl (by omega)) ?_
     refine cj ?_
     refine dt [36] (by kernel_rfl) (by simp) ?_
     refine dw ?_ ?_
     ·try dsimp only [St.put]
      refine ix rfl rfl rfl (ay rfl rfl rfl (rf _ _ _) ?_)
      refine el [(37, none), (38, none)] (fun i => [37, 38].contains i) 0 (rl [39]) (by kernel_rfl) ?_
      refine af rfl rfl rfl rfl (d9 rfl rfl) ?_
      refine jx (fun hs => ?_) (fun hs => ?_)
      ·have z5 : inB x.snd (-1) ((p.seconds.length : Int) - 1) = false := by simpa using hs
       refine af rfl rfl rfl rfl (cm rfl rfl (by constructor)) ?_
       refine cj ?_
       dsimp only [St.put]
       refine g9 (by kernel_rfl) ?_
       refine ⟨_, ?_, ⟨⟨rfl, rfl⟩, zF, zB, zN, zX⟩⟩
       simp_all [mo]
       try (intro h0; omega)
      have z5 : inB x.snd (-1) ((p.seconds.length : Int) - 1) = true := by simpa using hs
      refine af rfl rfl rfl rfl (cm rfl rfl (by constructor)) ?_
      refine cj ?_
      dsimp only [St.put]
      refine g9 (by kernel_rfl) ?_
      refine ⟨_, ?_, ⟨⟨rfl, rfl⟩, zF, zB, zN, zX⟩⟩
      simp_all [mo]
      try (intro h0; omega)
     exact dv
    exact dv
   exact dv
  rintro d hst
  dsimp only at hst ⊢
  refine ar rfl (fun hc => ?_) (fun hc => ?_)
  ·have hhd : mo p (ib p.pages j) x = false := by rw [hst, hc]; rfl
   refine yS fun _ K33 => ?_
   refine yR ?_
   refine yA rfl rfl ?_
   refine yN ?_
   dsimp only [St.put]
   refine K33 _ ?_
   refine aq ?_
   refine bg rfl (by constructor) zN zS ?_
   exact vb (vx hx (by rw [vy, hhd]; rfl)).symm
  have hhd : mo p (ib p.pages j) x = true := by rw [hst, hc]; rfl
  refine ax ?_
  refine K31 _ ?_
  refine yS fun _ K34 => ?_
  refine yS fun _ K35 => ?_
  refine yR ?_
  refine yF rfl rfl rfl rfl ?_
  try dsimp only [St.put]
  refine bi rfl (c := gp p.text) (jq (cs := cells p) rfl rfl (show 1 ≤ 4 by decide)) ?_
  refine yE rfl rfl rfl ?_
  refine yF rfl rfl rfl rfl ?_
  refine yL rfl rfl rfl ?_
  refine yF rfl rfl rfl rfl ?_
  refine yL rfl rfl rfl ?_
  try dsimp only [St.put]
  refine ae rfl (ay rfl rfl rfl (uby p.text x x.fst x.found ht) ?_)
  refine aa rfl (d9 rfl rfl) ?_
  refine et (fun hs => ?_) (fun hs => ?_)
  ·have hf1 : g8 p.text x x.fst x.found = false := by simpa using hs
   refine yM rfl rfl ?_
   refine yK rfl ?_
   refine yK rfl ?_
   refine yK rfl ?_
   refine yK rfl ?_
   refine yK rfl ?_
   refine yK rfl ?_
   refine yK rfl ?_
   refine yK rfl ?_
   refine yK rfl ?_
   refine aa rfl (bw rfl rfl (by constructor)) ?_
   refine yN ?_
   dsimp only [St.put]
   refine K35 _ ?_
   refine ar rfl (fun _ => ?_) (fun h => by cases h)
   refine yS fun _ K36 => ?_
   refine yR ?_
   refine yA rfl rfl ?_
   refine yN ?_
   dsimp only [St.put]
   refine K36 _ ?_
   refine aq ?_
   refine bg rfl (by constructor) zN zS ?_
   exact vb (vx hx (by rw [vy, hhd, hf1]; first | rfl | (rw [hf2]; rfl))).symm
  have hf1 : g8 p.text x x.fst x.found = true := by simpa using hs
  refine yM rfl rfl ?_
  refine yF rfl rfl rfl rfl ?_
  try dsimp only [St.put]
  refine bi rfl (c := gp p.text) (jq (cs := cells p) rfl rfl (show 1 ≤ 4 by decide)) ?_
  refine yE rfl rfl rfl ?_
  refine yF rfl rfl rfl rfl ?_
  refine yL rfl rfl rfl ?_
  refine yF rfl rfl rfl rfl ?_
  refine yL rfl rfl rfl ?_
  try dsimp only [St.put]
  refine ae rfl (ay rfl rfl rfl (uby p.text x x.snd x.well ht) ?_)
  refine aa rfl (d9 rfl rfl) ?_
  refine et (fun hs => ?_) (fun hs => ?_)
  ·have hf2 : g8 p.text x x.snd x.well = false := by simpa using hs
   refine aa rfl (cm rfl rfl (by constructor)) ?_
   refine yN ?_
   dsimp only [St.put]
   refine K35 _ ?_
   refine ar rfl (fun _ => ?_) (fun h => by cases h)
   refine yS fun _ K37 => ?_
   refine yR ?_
   refine yA rfl rfl ?_
   refine yN ?_
   dsimp only [St.put]
   refine K37 _ ?_
   refine aq ?_
   refine bg rfl (by constructor) zN zS ?_
   exact vb (vx hx (by rw [vy, hhd, hf1]; first | rfl | (rw [hf2]; rfl))).symm
  have hf2 : g8 p.text x x.snd x.well = true := by simpa using hs
  refine aa rfl (cm rfl rfl (by constructor)) ?_
  refine yN ?_
  dsimp only [St.put]
  refine K35 _ ?_
  refine ar rfl (fun h => by cases h) (fun _ => ?_)
  refine ax ?_
  refine K34 _ ?_
  refine yR ?_
  refine yF rfl rfl rfl rfl ?_
  refine yL rfl rfl rfl ?_
  refine yA rfl rfl ?_
  refine yN ?_
  dsimp only [St.put]
  refine K29 _ ?_
  refine yR ?_
  refine yM rfl rfl ?_
  refine aa rfl (cg rfl rfl rfl (by omega)) ?_
  refine yA rfl rfl ?_
  refine yN ?_
  dsimp only [St.put]
  rw [← udq hx]
  exact ⟨j + 1, by omega, ⟨by omega, by rw [uca, hK.2, yx hx, vy, hhd, hf1, hf2]; rfl⟩, ⟨⟨rfl, rfl⟩, zF, zB, zN, zX⟩⟩
 replace hc := of_decide_eq_false hc
 obtain rfl : j = p.pages.length := by omega
 refine dg ?_
 refine K25 _ ?_
 refine yS fun _ K38 => ?_
 refine yR ?_
 refine yA rfl rfl ?_
 refine yN ?_
 dsimp only [St.put]
 refine K38 _ ?_
 refine aq ?_
 refine bg rfl (by constructor) zN zS ?_
 exact vb (by unfold fq; rw [hRB, hK.2, decide_eq_true s3]; rfl)
end Go.Proofs.YtbbdginipiljdaaDoor
namespace Go.AB
open Go Go.RowKit
open Go.AB.Enc (cells)
open Go.PB (av ai PlaceD az bf ba bh am ah ck bk c4 c6)
theorem qp {p : ah} {n : Int} (h : eg p n = 0) : cc p = 0 ∧ ∃ (j : Nat) (x : am), n = (j : Int) ∧ p.pages[j]? = some x ∧ oq p n = x := by
 unfold eg at h
 by_cases hc : cc p = 0
 ·rw [decide_eq_true hc, cond_true] at h
  cases hb : inB n 0 ((p.pages.length : Int) - 1)
  ·rw [hb] at h; cases h
  rw [inB_true] at hb
  obtain ⟨x, hx⟩ : ∃ x, p.pages[n.toNat]? = some x := ⟨_, List.getElem?_eq_getElem (show n.toNat < p.pages.length by omega)⟩
  exact ⟨hc, n.toNat, x, by omega, hx, by unfold oq; rw [hx]; rfl⟩
 rw [decide_eq_false hc, cond_false] at h
 exact absurd h hc
end Go.AB
namespace Go.Proofs.YtbbdginipiljdaaDoor
set_option maxRecDepth 10000
open Go.RowKit Go.AB
open Go.AB.Enc (cells)
open Go.PB (av ai PlaceD az bf ba bh am ah ck bk c4 c6)
theorem ui6 (p : ah) : Pure Tryd.prog 17 [val p] (.v (.int .i64 (cc p))) := by
 refine cy Tryd.func17 rfl (fun m => .v) fun G nx => ?_
 simp only [Tryd.ntmps17, List.length_cons, List.length_nil, Nat.reduceAdd, Nat.reduceSub]
 refine bu fun hlt => ?_
 dsimp only at hlt
 refine yS fun _ K1 => ?_
 refine yR ?_
 try dsimp only [St.put]
 refine yB rfl rfl rfl ?_
 refine yA rfl rfl ?_
 refine yN ?_
 dsimp only [St.put]
 refine K1 _ ?_
 refine yS fun _ K2 => ?_
 refine yS fun _ K3 => ?_
 refine yR ?_
 refine yF rfl rfl rfl rfl ?_
 try dsimp only [St.put]
 refine bi rfl (c := gp p.text) (jq (cs := cells p) rfl rfl (show 1 ≤ 4 by decide)) ?_
 try dsimp only [St.put]
 refine ae rfl (ay rfl rfl rfl (uos p.text) ?_)
 refine yA rfl rfl ?_
 refine yN ?_
 dsimp only [St.put]
 refine K3 _ ?_
 refine yS fun _ K4 => ?_
 refine yR ?_
 refine yM rfl rfl ?_
 refine aa rfl (ez rfl rfl rfl) ?_
 refine yN ?_
 dsimp only [St.put]
 refine K4 _ ?_
 refine ar rfl (fun hc => ?_) (fun hc => ?_)
 ·have ht : dr p.text = false := by
   have h0 := j0 hc
   unfold i6 at h0
   cases h1 : dr p.text
   ·rfl
   rw [h1] at h0; exact absurd rfl h0
  refine yS fun _ K5 => ?_
  refine yR ?_
  refine yM rfl rfl ?_
  refine yA rfl rfl ?_
  refine yN ?_
  dsimp only [St.put]
  refine K5 _ ?_
  refine aq ?_
  refine bg rfl (by constructor) zN zS ?_
  exact vi (by simp [cc, i6, ht])
 have ht : dr p.text = true := by
  have h0 := il hc
  unfold i6 at h0
  cases h1 : dr p.text
  ·rw [h1] at h0; cases h0
  rfl
 refine ax ?_
 refine K2 _ ?_
 refine yS fun _ K6 => ?_
 refine yS fun _ K7 => ?_
 refine yR ?_
 refine yE rfl rfl rfl ?_
 try dsimp only [St.put]
 refine ae rfl (ay rfl rfl rfl (ui4 p ht) ?_)
 refine aa rfl (d9 rfl rfl) ?_
 refine yN ?_
 dsimp only [St.put]
 refine K7 _ ?_
 refine ar rfl (fun hc => ?_) (fun hc => ?_)
 ·have hp : fq p = false := by simpa using hc
  refine yS fun _ K8 => ?_
  refine yR ?_
  refine yA rfl rfl ?_
  refine yN ?_
  dsimp only [St.put]
  refine K8 _ ?_
  refine aq ?_
  refine bg rfl (by constructor) zN zS ?_
  exact vi (by simp [cc, ht, hp])
 have hp : fq p = true := by simpa using hc
 refine ax ?_
 refine K6 _ ?_
 refine yS fun _ K9 => ?_
 refine yR ?_
 refine yA rfl rfl ?_
 refine yN ?_
 dsimp only [St.put]
 refine K9 _ ?_
 refine aq ?_
 refine bg rfl (by constructor) zN zS ?_
 exact vi (by simp [cc, ht, hp])
end Go.Proofs.YtbbdginipiljdaaDoor
namespace Go.Proofs.YtbbdginipiljdaaDoor
set_option maxRecDepth 10000
open Go.RowKit Go.AB
open Go.AB.Enc (cells)
open Go.PB (av ai PlaceD az bf ba bh am ah ck bk c4 c6)
end Go.Proofs.YtbbdginipiljdaaDoor
namespace Go.Proofs.YtbbdginipiljdaaDoor
set_option maxRecDepth 10000
open Go.RowKit Go.AB
open Go.AB.Enc (cells)
open Go.PB (av ai PlaceD az bf ba bh am ah ck bk c4 c6)
end Go.Proofs.YtbbdginipiljdaaDoor
namespace Go.Proofs.YtbbdginipiljdaaDoor
set_option maxRecDepth 10000
open Go.RowKit Go.AB
open Go.AB.Enc (cells)
open Go.PB (av ai PlaceD az bf ba bh am ah ck bk c4 c6)
end Go.Proofs.YtbbdginipiljdaaDoor
namespace Go.AB
open Go Go.RowKit
open Go.AB.Enc (cells)
open Go.PB (av ai PlaceD az bf ba bh am ah ck bk)
/-! ### First and second readers change their places -/
/-! ### Errors that are missed -/
end Go.AB
namespace Go.AB
open Go Go.RowKit
open Go.AB.Enc (cells)
open Go.PB (av ai PlaceD az bf ba bh am ah ck bk c4 c6)
def ro (R : Nat → Int) (c : Int) (l : List Int) : Int := l.foldl (fun n z => min n (R z.toNat)) c
def lj (R : Nat → Int) (n : Int) (l : List Int) : Nat → Int := l.foldl (fun R z => fun i => bif decide (i = z.toNat) then R z.toNat - n else R i) R
theorem uhi (R : Nat → Int) (n : Int) : lj R n [] = R := rfl
theorem ukv {R : Nat → Int} {c : Int} {l : List Int} {k : Nat} {z : Int} (h : l[k]? = some z) : ro R c (l.take (k + 1)) = min (ro R c (l.take k)) (R z.toNat) := by
 unfold ro; rw [List.take_add_one, h, Option.toList_some, List.foldl_append]; rfl
theorem uhh {R : Nat → Int} {n : Int} {l : List Int} {k : Nat} {z : Int} (h : l[k]? = some z) : lj R n (l.take (k + 1)) = fun i => bif decide (i = z.toNat) then lj R n (l.take k) z.toNat - n else lj R n (l.take k) i := by
 unfold lj; rw [List.take_add_one, h, Option.toList_some, List.foldl_append]; rfl
theorem unr {p : ah} {j : Nat} {x : am} (hx : p.pages[j]? = some x) (R C : Nat → Int) : (bv p).alone R C j = ro R (C j) (dm p x) := by
 simp only [Net.alone, bv, hx, dm, ro]
 by_cases q1 : 0 ≤ x.fst <;> by_cases q2 : 0 ≤ x.snd
 ·simp [q1, q2, ov, show ((p.firsts.length : Int) + x.snd).toNat = p.firsts.length + x.snd.toNat by omega]
 ·simp [q1, q2, ov]
 ·simp [q1, q2, ov, show ((p.firsts.length : Int) + x.snd).toNat = p.firsts.length + x.snd.toNat by omega]
 ·simp [q1, q2, ov]
theorem uk9 {p : ah} (h : ey p) {j : Nat} {x : am} (hx : p.pages[j]? = some x) (R : Nat → Int) (n : Int) : (bv p).lessR R j n = lj R n (dm p x) := by
 have hp := pageB_true.1 (h.page j x hx)
 have h1 := hp.fst
 have h2 := hp.snd
 funext i
 simp only [Net.lessR, Net.by, bv, hx, dm, lj]
 by_cases q1 : 0 ≤ x.fst <;> by_cases q2 : 0 ≤ x.snd
 ·have e2 : ((p.firsts.length : Int) + x.snd).toNat = p.firsts.length + x.snd.toNat := by omega
  have hne : ¬ p.firsts.length + x.snd.toNat = x.fst.toNat := by omega
  rw [decide_eq_true q1, decide_eq_true q2]
  simp only [cond_true, List.cons_append, List.nil_append, List.foldl_cons, List.foldl_nil, e2, Option.some.injEq]
  by_cases z1 : i = x.fst.toNat
  ·have z2 : ¬ i = p.firsts.length + x.snd.toNat := by omega
   simp [z1.symm, z2, Ne.symm z2]
  ·by_cases z2 : i = p.firsts.length + x.snd.toNat
   ·simp [z1, Ne.symm z1, z2, hne, Ne.symm hne]
   ·simp [z1, Ne.symm z1, z2, Ne.symm z2]
 ·rw [decide_eq_true q1, decide_eq_false q2]
  simp only [cond_true, cond_false, List.append_nil, List.foldl_cons, List.foldl_nil, Option.some.injEq]
  by_cases z1 : i = x.fst.toNat
  ·simp [z1]
  ·simp [z1, Ne.symm z1]
 ·have e2 : ((p.firsts.length : Int) + x.snd).toNat = p.firsts.length + x.snd.toNat := by omega
  rw [decide_eq_false q1, decide_eq_true q2]
  simp only [cond_true, cond_false, List.nil_append, List.foldl_cons, List.foldl_nil, e2, Option.some.injEq]
  by_cases z2 : i = p.firsts.length + x.snd.toNat
  ·simp [z2]
  ·simp [z2, Ne.symm z2]
 ·rw [decide_eq_false q1, decide_eq_false q2]
  simp
theorem uah {p : ah} {R C : Nat → Int} (hB : Bd p R C) {j : Nat} {n : Int} (h0 : 0 ≤ n) (hn : n ≤ (bv p).alone R C j) : Bd p ((bv p).lessR R j n) (ei C j) := by
 refine ⟨fun i => ?_, fun k => ?_, hB.nr, hB.np⟩
 ·unfold Net.lessR
  cases hb : (bv p).by j i
  ·exact hB.r i
  ·have h1 := (Net.le_alone.1 hn).2 i hb
   have h2 := hB.r i
   show -1000000 ≤ R i - n ∧ R i - n ≤ 1000000
   omega
 ·unfold ei
  cases decide (k = j)
  ·exact hB.c k
  ·exact ⟨Int.le_refl _, by show (0 : Int) ≤ 1000000; omega⟩
/-- what is above has been looked at -/
def FromTop (p : ah) (R C : Nat → Int) (j : Nat) (n : Int) : Prop := (bv p).pick R C j ≤ n ∧ n ≤ (bv p).alone R C j ∧ ∀ m, n < m → m ≤ (bv p).alone R C j → ¬ (bv p).most R C ≤ m + (bv p).most ((bv p).lessR R j m) (ei C j)
theorem FromTop.start {p : ah} {R C : Nat → Int} {j : Nat} (h : (bv p).Pick R C j ((bv p).pick R C j)) : FromTop p R C j ((bv p).alone R C j) := ⟨h.le, Int.le_refl _, fun m h1 h2 => by omega⟩
theorem FromTop.stop {p : ah} {R C : Nat → Int} {j : Nat} {n : Int} (h : (bv p).Pick R C j ((bv p).pick R C j)) (k : FromTop p R C j n) (hs : (bv p).most R C ≤ n + (bv p).most ((bv p).lessR R j n) (ei C j)) : n = (bv p).pick R C j :=
 Net.Pick.uniq ⟨Int.le_trans h.nn k.1, k.2.1, hs, k.2.2⟩ h
theorem FromTop.down {p : ah} {R C : Nat → Int} {j : Nat} {n : Int} (h : (bv p).Pick R C j ((bv p).pick R C j)) (k : FromTop p R C j n) (hs : ¬ (bv p).most R C ≤ n + (bv p).most ((bv p).lessR R j n) (ei C j)) : FromTop p R C j (n - 1) := by
 refine ⟨?_, by have := k.2.1; omega, fun m h1 h2 => ?_⟩
 ·have h1 := k.1
  by_cases e : n = (bv p).pick R C j
  ·subst e
   exact absurd h.ok hs
  ·omega
 ·by_cases e : m = n
  ·subst e; exact hs
  ·exact k.2.2 m (by omega) h2
end Go.AB
namespace Go.AB
open Go Go.RowKit
open Go.AB.Enc (cells)
section
variable {P : Program} {o : Oper} {st : St} {K : St → Prop}
/-- An empty slice that is built: owned. -/
theorem uq {t e : TypeId} {sz bytes : Nat} [AppT P t e sz bytes] (ho : o.op = .buildSlice t 0 #[]) (hsz1 : 1 ≤ sz) (h : K (St.put { st with G := ak st.G st.nx (.arr 0 0 e sz 0 []), nx := st.nx + 1 } o.dst (.own st.nx 0 0))) : EStep P o st K :=
 j8 fun E w a hsim => by
  obtain ⟨ht, i, z, hie, hz, h1, h2, h3⟩ := AppT.spec (P := P) (t := t) (e := e) (sz := sz) (bytes := bytes)
  obtain ⟨ob, hob⟩ : ∃ ob, ob = Obj.cells #[] e := ⟨_, rfl⟩
  have hev := Ev.laid hsim.g (o := ob) 0 (.inl rfl)
  have hg := SimG.laid hsim.g (o := ob) 0 (.inl rfl)
  have hnew : (w.alloc ob).heap[w.heap.size]? = some ob := ry w ob
  have hsz : (w.alloc ob).heap.size = w.heap.size + 1 := by simp
  have hold : ∀ n tt b, (E.lay w.heap.size 0).T n = some tt → blk tt.2.2 = some b → b < w.heap.size := fun n tt b h5 h6 => (hsim.g.tb n _ _ _ b h5 h6).2
  have hnx := hsim.g.nx
  have hfr : ∀ b o', blk (.slice (some ⟨w.heap.size, 0, none⟩) 0 0) = some b → w.heap[b]? = some o' → False := fun b o' hbk ho' => by
   simp only [blk, Option.some.injEq] at hbk
   subst hbk
   have := (Array.getElem?_eq_some_iff.1 ho').1
   omega
  have hev2 := hev.thenName (.slice (some ⟨w.heap.size, 0, none⟩) 0 0) hfr
  have hg2 := SimG.name hg (.slice (some ⟨w.heap.size, 0, none⟩) 0 0) (.arr 0 0 e sz 0 []) (fun b hbk => by
   simp only [blk, Option.some.injEq] at hbk
   subst hbk
   exact ⟨hsim.g.base, by rw [hsz]; omega, fun n tt h5 h6 => absurd (hold n tt _ h5 h6) (by omega)⟩) (by
   refine ⟨.slice (some ⟨w.heap.size, 0, none⟩) 0 0, [], ?_, ⟨by simp, .inr ⟨w.heap.size, 0, _, rfl, hsim.g.base, hnew.trans (by rw [hob]), Nat.le_refl _, Nat.zero_le _, by simp, by simp⟩⟩, fun c hc => (by cases hc), Rs.nil, fun b hbk => ?_, hsz1⟩
   ·simp [Env.name, Env.lay, hnx]
   ·simp only [blk, Option.some.injEq] at hbk
    subst hbk
    simp [Env.name, Env.lay])
  refine ⟨.slice (some ⟨w.heap.size, 0, none⟩) 0 0, w.alloc ob, _, _, _, .own st.nx 0 0, ?_, hev2, ?_, hg2, h⟩
  ·subst hob
   simp [execOp, ho, Instr.buildSlice, run_underlying ht, sizeOf, typeInfo, hie, Instr.fill, newRow, newObj, Sem.run, show (Array.map (fun _ => (default : Value)) (Array.range 0)) = #[] from by simp]
  ·refine R.own (by simp [Env.name, Env.lay]; omega) (Nat.le_refl _) (Nat.zero_le _) fun ver wv val htt => ?_
   simp only [Env.name, Env.lay, hnx, if_true, Option.some.injEq, Prod.mk.injEq] at htt
   obtain ⟨rfl, rfl, rfl⟩ := htt
   exact ⟨Nat.le_refl _, fun _ => ⟨_, Nat.le_refl _, rfl⟩⟩
end
end Go.AB
namespace Go.AB
open Go Go.RowKit
open Go.AB.Enc (cells)
variable {ρ : Option Nat}
section
variable {P : Program} {Q : Exit → St → Prop} {st : St}
theorem Back.simN {E0 E' : Env} {w0 w' : World} {a0 a' : Act} {st' : St} {u : List (Nat × C)} {g : Nat → Option GObj} {M : Nat} (h0 : Sim E0 w0 st a0) (hr : st.r = []) (hM : st.nx ≤ M) (hb : Back { st with nx := M } u g st') (hu : pk M u) (hg : ∀ n o, g n = some o → st.G n = some o ∨ (n < M ∧ o.low M))
  (hev : Ev E0 w0 E' w') (hs : Sim E' w' st' a') : Ev E0 w0 (E'.drop M) w' ∧ Sim (E'.drop M) w' { st with r := u, G := g, nx := M } a' := by
 have h1 := h0.g.nx
 refine ⟨hev.drop (by omega), ?_⟩
 have hlow : ∀ i, i < st.n → (bl st.l u i).low M := fun i hi => by
  rcases ug st.l u i with ⟨p, hp, _, he⟩ | ⟨_, he⟩
  ·rw [he]; exact zm hu p hp
  ·rw [he]
   have := h0.low i hi
   rw [hr] at this
   exact C.low.mono this hM
 have hcl : ∀ i, bl st.l u i = .any ∨ bl st.l u i = bl st'.l st'.r i := fun i => by
  by_cases hi : i < st.l.length
  ·rcases xb _ _ hb.fits i (Nat.zero_le _) (by show i < 0 + st.l.length; omega) with h | h
   ·exact .inl h
   ·exact .inr h.symm
  ·rcases ug st.l u i with ⟨p, hp, he, he2⟩ | ⟨_, he⟩
   ·rcases hb.keys with hk | hk
    ·have h2 : p.1 < st.l.length := ww hk p hp
     omega
    ·rcases xa hk p hp with h | h
     ·left; rw [he2, h]
     ·right; rw [he2, ← h, he]
   ·left; rw [he, List.getD_eq_getElem?_getD, List.getElem?_eq_none (by omega)]; rfl
 refine hs.dropTo (st' := { st with r := u, G := g, nx := M }) hb.n.1.symm hb.n.2.symm hb.nx (fun i hi => ?_) fun n o ho => ⟨hb.G n o ho, ?_⟩
 ·rcases hcl i with h2 | h2
  ·exact .inl h2
  ·exact .inr ⟨h2, hlow i (hb.n.1 ▸ hi)⟩
 ·rcases hg n o ho with h2 | h2
  ·have := h0.lowG n o h2
   exact ⟨by have := this.1; show n < M; omega, GObj.low_mono this.2 hM⟩
  ·exact h2
end
section
variable {P : Program} {o : Oper} {st : St} {K : St → Prop}
end
end Go.AB
namespace Go.AB
open Go Go.RowKit
theorem unm {ρ : Option Nat} {P : Program} {Q : Exit → St → Prop} {st : St} {X : Type} {x y : Code} (I : X → Prop) (u : X → List (Nat × C)) (g : X → (Nat → Option GObj) → Nat → Option GObj) (N : X → Nat) (hr : st.r = [])
  (hN : ∀ x, I x → st.nx ≤ N x) (hu : ∀ x, I x → pk (N x) (u x)) (hg : ∀ x, I x → ∀ n o, g x st.G n = some o → st.G n = some o ∨ (n < N x ∧ o.low (N x)))
  (h1 : AW ρ P x (o7 (fun st' => ∃ x', I x' ∧ Back { st with nx := N x' } (u x') (g x' st.G) st') Q) st) (h2 : ∀ x', I x' → AW ρ P y Q { st with r := u x', G := g x' st.G, nx := N x' }) : AW ρ P (.seq x y) Q st := by
 intro E w a hs
 refine wpIn_seq (ig ?_ (h1 E w a hs))
 rintro e a' w' ⟨st', E', q1, q2, q3⟩
 cases e with
 | normal =>
  obtain ⟨x', h5, h6⟩ := q3
  obtain ⟨h7, h8⟩ := Back.simN hs hr (hN x' h5) h6 (hu x' h5) (hg x' h5) q1 q2
  exact ig (fun _ _ _ hq => ml h7 hq) (h2 x' h5 _ w' a' h8)
 | _ => exact ⟨st', E', q1, q2, q3⟩
/-- What stands in a slot is known less well. -/
theorem xk {ρ : Option Nat} {P : Program} {Q : Exit → St → Prop} {st : St} {x : Code} (i : Nat) {c : C} (c' : C) (h0 : st.at i = c) (hw : Wk c c') (h : AW ρ P x Q { st with r := (i, c') :: st.r }) : AW ρ P x Q st := by
 intro E w a hs
 have hp := hs.at i
 rw [h0] at hp
 refine h E w a ⟨hs.d, hs.sz, fun j v hj => ?_, hs.g⟩
 simp only [bl]
 cases hb : Nat.beq i j
 ·exact hs.t j v hj
 ·have hij := Nat.eq_of_beq_eq_true hb
  subst hij
  have hv : a.tmps.getD i undef = v := by rw [Array.getD_eq_getD_getElem?, hj]; rfl
  rw [hv] at hp
  exact hw.2 _ _ _ hp
end Go.AB
namespace Go.AB
open Go Go.RowKit
open Go.AB.Enc (cells)
open Go.PB (av ai PlaceD az bf ba bh am ah ck bk c4 c6)
theorem ul4 {l : List Int} {k : Nat} {z : Int} (h : l[k]? = some z) : (ci l)[k]? = some (.v (.int .i64 z)) := by
 have e : ci l = l.map fun y => .v (.int .i64 y) := by
  clear h
  induction l with
  | nil => rfl
  | cons y l ih =>
   have h1 : ci (y :: l) = cells y ++ ci l := by simp [ci]
   rw [h1, ih]; rfl
 rw [e, List.getElem?_map, h]; rfl
end Go.AB
namespace Go.Proofs.YtbbdginipiljdaaDoor
set_option maxRecDepth 10000
open Go.RowKit Go.AB
open Go.AB.Enc (cells)
open Go.PB (av ai PlaceD az bf ba bh am ah ck bk c4 c6)
theorem yu {p : ah} (h : ey p) {j : Nat} {x : am} (hx : p.pages[j]? = some x) {k : Nat} (hk : k < (dm p x).length) : ∃ zn : Nat, (dm p x)[k]? = some (zn : Int) ∧ zn < ce p := by
 have hp := pageB_true.1 (h.page j x hx)
 have h1 := hp.fst
 have h2 := hp.snd
 obtain ⟨z, hz⟩ : ∃ z, (dm p x)[k]? = some z := ⟨_, List.getElem?_eq_getElem hk⟩
 have hm := List.mem_of_getElem? hz
 have hb : 0 ≤ z ∧ z < (ce p : Int) := by
  unfold dm at hm
  unfold ce
  rw [List.mem_append] at hm
  rcases hm with hm | hm
  ·by_cases q : 0 ≤ x.fst
   ·rw [decide_eq_true q, cond_true, List.mem_singleton] at hm; omega
   rw [decide_eq_false q] at hm; cases hm
  by_cases q : 0 ≤ x.snd
  ·rw [decide_eq_true q, cond_true, List.mem_singleton] at hm; omega
  rw [decide_eq_false q] at hm; cases hm
 exact ⟨z.toNat, by rw [hz]; congr 1; omega, by omega⟩
end Go.Proofs.YtbbdginipiljdaaDoor
namespace Go.AB
open Go Go.RowKit
open Go.AB.Enc (cells)
open Go.PB (av ai PlaceD az bf ba bh am ah ck bk c4 c6)
theorem ufh (r : Int) (s i : Nat) : r * ((s / 2 ^ i % 2 : Nat) : Int) = bif s.testBit i then r else 0 := by
 have h2 : s / 2 ^ i % 2 < 2 := Nat.mod_lt _ (by omega)
 cases hb : s.testBit i
 ·have : s / 2 ^ i % 2 = 0 := by
   have : ¬ ((s / 2 ^ i % 2 : Nat) : Int) = 1 := fun e => by
    have := bit_eq.1 e
    rw [hb] at this; cases this
   omega
  rw [this]; simp
 have : s / 2 ^ i % 2 = 1 := by have := bit_eq.2 hb; omega
 rw [this]; simp
theorem une (s i : Nat) : decide (((s / 2 ^ i % 2 : Nat) : Int) = 1) = s.testBit i := by
 rw [Bool.eq_iff_iff, decide_eq_true_eq]
 exact bit_eq
theorem uix {p : ah} (h : ey p) {j : Nat} {x : am} (hx : p.pages[j]? = some x) {z : Int} (hz : z ∈ dm p x) : ∃ zn : Nat, z = (zn : Int) ∧ zn ≤ 6 := by
 obtain ⟨k, hk⟩ := List.getElem?_of_mem hz
 obtain ⟨zn, h1, h2⟩ := uiw h hx (List.getElem?_eq_some_iff.1 hk).1
 rw [hk] at h1
 cases h1
 exact ⟨zn, rfl, h2⟩
theorem vw {p : ah} {j : Nat} {x : am} (hx : p.pages[j]? = some x) : (p.pages.map (dm p))[j]? = some (dm p x) := by rw [List.getElem?_map, hx]; rfl
end Go.AB
namespace Go.Proofs.YtbbdginipiljdaaDoor
set_option maxRecDepth 10000
open Go.RowKit Go.AB
open Go.AB.Enc (cells)
open Go.PB (av ai PlaceD az bf ba bh am ah ck bk c4 c6)
theorem ujo (k s : Nat) (hk : k ≤ 64) (hs : s ≤ 1000) : Pure Tryd.prog 91 [.v (.int .i64 (k : Int)), .elem [.v (.int .i64 (s : Int))]] (.v (.bool (s.testBit k))) := by
 refine cy Tryd.func91 rfl (fun m => .v) fun G nx => ?_
 simp only [Tryd.ntmps91, List.length_cons, List.length_nil, Nat.reduceAdd, Nat.reduceSub]
 refine bu fun hlt => ?_
 dsimp only at hlt
 refine yS fun _ K1 => ?_
 refine yR ?_
 refine yA rfl rfl ?_
 refine yN ?_
 dsimp only [St.put]
 refine K1 _ ?_
 refine yS fun _ K2 => ?_
 refine yR ?_
 refine yL rfl rfl rfl ?_
 refine yM rfl rfl ?_
 refine aa rfl (ze (m := s) (n := k) rfl rfl rfl hk (by show (s : Int) ≤ 9223372036854775807; omega) (by decide)) ?_
 refine aa rfl (zh (m := s / 2 ^ k) rfl rfl rfl (Nat.lt_of_le_of_lt (Nat.div_le_self _ _) (by show s < 2 ^ 64; omega)) (by decide)) ?_
 refine aa rfl (ff rfl rfl rfl) ?_
 refine yA rfl rfl ?_
 refine yN ?_
 dsimp only [St.put]
 refine K2 _ ?_
 refine aq ?_
 refine bg rfl (by constructor) zN zS ?_
 exact vb (une s k)
set_option maxHeartbeats 1000000 in
theorem ucd (p : ah) (R C : Nat → Int) (s : Nat) (h : ey p) (hB : Bd p R C) (hs : s ≤ 1000) : Pure Tryd.prog 68 [val (ga p R C), .v (.int .i64 (s : Int))] (.v (.int .i64 ((bv p).f R C fun i => s.testBit i))) := by
 refine cy Tryd.func68 rfl (fun m => .v) fun G nx => ?_
 simp only [Tryd.ntmps68, List.length_cons, List.length_nil, Nat.reduceAdd, Nat.reduceSub]
 refine bu fun hlt => ?_
 dsimp only at hlt
 have hnr := hB.nr
 have hnp := hB.np
 have hl1 := jm (ce p) R
 have hl2 := jm p.pages.length C
 refine yS fun _ K1 => ?_
 refine yR ?_
 try dsimp only [St.put]
 refine yB rfl rfl rfl ?_
 try dsimp only [St.put]
 refine yB rfl rfl rfl ?_
 refine yA rfl rfl ?_
 refine yN ?_
 dsimp only [St.put]
 refine K1 _ ?_
 refine yS fun _ K2 => ?_
 refine yR ?_
 refine yA rfl rfl ?_
 refine yN ?_
 dsimp only [St.put]
 refine K2 _ ?_
 refine yS fun _ K3 => ?_
 refine yS fun _ K4 => ?_
 refine yR ?_
 refine yF rfl rfl rfl rfl ?_
 refine yL rfl rfl rfl ?_
 refine aa rfl (bn rfl rfl (List.length_map _)) ?_
 refine yM rfl rfl ?_
 refine yN ?_
 dsimp only [St.put]
 refine K4 _ ?_
 refine bj ?_
 refine cp 14 ?_
 refine zQ ?_
 refine dl (G) zX ?_
 dsimp only
 refine dj (X := Nat) (fun i => i ≤ ce p) (fun i => ce p - i) (fun i => [(5, .v (.int .i64 (fR R (fun i => s.testBit i) i))), (6, .any), (7, .any), (13, .v (.int .i64 (i : Int)))]) (fun i G' => G') 0 rfl ?_ ?_ (fun _ _ h => h) ?_ ?_ ?_
 ·exact Nat.zero_le _
 ·exact zF
 ·rintro i hI
  exact zL
 ·exact fun _ _ _ _ h => .inl h
 rintro i hI
 dsimp only at hI ⊢
 refine yS fun _ K5 => ?_
 refine yR ?_
 refine aa rfl (cn rfl rfl rfl) ?_
 refine yN ?_
 dsimp only [St.put]
 refine K5 _ ?_
 refine yS fun _ K6 => ?_
 refine ar rfl (fun hc => ?_) (fun hc => ?_)
 ·replace hc := of_decide_eq_true hc
  have hi : i < ce p := by
   have : (i : Int) < ((cr (ce p) R).length : Int) := hc
   rw [hl1] at this
   omega
  have hRi := m8 R hi
  have hbd := z6 hB (fun i => s.testBit i) i (by omega)
  have hrb := hB.r i
  have hmb : -1000000 ≤ R i * ((s / 2 ^ i % 2 : Nat) : Int) ∧ R i * ((s / 2 ^ i % 2 : Nat) : Int) ≤ 1000000 := by
   rw [ufh]
   cases s.testBit i
   ·show -1000000 ≤ (0 : Int) ∧ (0 : Int) ≤ 1000000
    omega
   exact hrb
  refine ax ?_
  refine K6 _ ?_
  refine yS fun _ K7 => ?_
  refine bj ?_
  refine yS fun _ K8 => ?_
  refine yR ?_
  refine yM rfl rfl ?_
  refine aa rfl (cb rfl rfl rfl rfl (bx (by assumption)) (Enc.len _)) ?_
  refine yL rfl rfl rfl ?_
  refine yA rfl rfl ?_
  refine yA rfl rfl ?_
  refine yN ?_
  dsimp only [St.put]
  refine K8 _ ?_
  refine yR ?_
  refine yM rfl rfl ?_
  refine yM rfl rfl ?_
  refine yL rfl rfl rfl ?_
  refine yM rfl rfl ?_
  refine aa rfl (ze (m := s) (n := i) rfl rfl rfl (by show i ≤ 64; omega) (by show (s : Int) ≤ 9223372036854775807; omega) (by decide)) ?_
  refine aa rfl (zh (m := s / 2 ^ i) rfl rfl rfl (Nat.lt_of_le_of_lt (Nat.div_le_self _ _) (by show s < 2 ^ 64; omega)) (by decide)) ?_
  refine aa rfl (zg rfl rfl rfl (by omega)) ?_
  refine aa rfl (cg rfl rfl rfl (by omega)) ?_
  refine yA rfl rfl ?_
  refine yN ?_
  dsimp only [St.put]
  refine K7 _ ?_
  refine yR ?_
  refine aa rfl (cg rfl rfl rfl (by omega)) ?_
  refine yM rfl rfl ?_
  refine yN ?_
  dsimp only [St.put]
  rw [ufh, ← ul9 R (fun i => s.testBit i) i]
  exact ⟨i + 1, by omega, by omega, ⟨⟨rfl, rfl⟩, zF, zB, zN, zX⟩⟩
 replace hc := of_decide_eq_false hc
 obtain rfl : i = ce p := by
  have : ¬ (i : Int) < ((cr (ce p) R).length : Int) := hc
  rw [hl1] at this
  omega
 have hfr := z6 hB (fun i => s.testBit i) _ (Nat.le_refl (ce p))
 obtain ⟨FR, hFR⟩ : ∃ FR, fR R (fun i => s.testBit i) (ce p) = FR := ⟨_, rfl⟩
 rw [hFR] at hfr
 refine dg ?_
 refine K3 _ ?_
 refine yS fun _ K9 => ?_
 refine yS fun _ K10 => ?_
 refine yR ?_
 refine yF rfl rfl rfl rfl ?_
 refine yL rfl rfl rfl ?_
 refine aa rfl (bn rfl rfl (List.length_map _)) ?_
 refine yM rfl rfl ?_
 refine yN ?_
 dsimp only [St.put]
 rw [hFR, show FR = FR + fC p C (fun i => s.testBit i) 0 by show FR = FR + 0; omega]
 refine K10 _ ?_
 refine bj ?_
 refine cp 31 ?_
 refine zQ ?_
 refine dl (G) zX ?_
 dsimp only
 refine dj (X := Nat) (fun j => j ≤ p.pages.length) (fun j => p.pages.length - j) (fun j => [(5, .v (.int .i64 (FR + fC p C (fun i => s.testBit i) j))), (8, .any), (9, .any), (30, .v (.int .i64 (j : Int)))]) (fun j G' => G') 0 rfl ?_ ?_ (fun _ _ h => h) ?_ ?_ ?_
 ·exact Nat.zero_le _
 ·exact zF
 ·rintro j hI
  exact zL
 ·exact fun _ _ _ _ h => .inl h
 rintro j hJ
 dsimp only at hJ ⊢
 refine yS fun _ K11 => ?_
 refine yR ?_
 refine aa rfl (cn rfl rfl rfl) ?_
 refine yN ?_
 dsimp only [St.put]
 refine K11 _ ?_
 refine yS fun _ K12 => ?_
 refine ar rfl (fun hc => ?_) (fun hc => ?_)
 ·replace hc := of_decide_eq_true hc
  have hj : j < p.pages.length := by
   have : (j : Int) < ((cr p.pages.length C).length : Int) := hc
   rw [hl2] at this
   omega
  obtain ⟨x, hx⟩ : ∃ x, p.pages[j]? = some x := dh hj
  have hrx := vw hx
  have hCj := m8 C hj
  have hcb := hB.c j
  have hfc := uel hB (fun i => s.testBit i) j (by omega)
  have hhit := ulu hx fun i => s.testBit i
  refine ax ?_
  refine K12 _ ?_
  refine yS fun _ K13 => ?_
  refine bj ?_
  refine yS fun _ K14 => ?_
  refine yR ?_
  refine yM rfl rfl ?_
  refine aa rfl (cb rfl rfl rfl rfl (bx (by assumption)) (Enc.len _)) ?_
  refine yL rfl rfl rfl ?_
  refine yA rfl rfl ?_
  refine yA rfl rfl ?_
  refine yN ?_
  dsimp only [St.put]
  refine K14 _ ?_
  refine yS fun _ K15 => ?_
  refine yR ?_
  refine yF rfl rfl rfl rfl ?_
  refine yL rfl rfl rfl ?_
  refine yM rfl rfl ?_
  refine aa rfl (cb rfl rfl rfl rfl (bx (by assumption)) (Enc.len _)) ?_
  refine yL rfl rfl rfl ?_
  refine aa rfl (qf rfl rfl) ?_
  try dsimp only [St.put]
  refine ae rfl (ay rfl rfl rfl (xr (dm p x) (fun z => s.testBit z.toNat) _ _ fun z hz => by obtain ⟨zn, rfl, h6⟩ := uix h hx hz; exact ujo zn s (by omega) hs) ?_)
  refine aa rfl (d9 rfl rfl) ?_
  refine yN ?_
  dsimp only [St.put]
  refine K15 _ ?_
  refine ar rfl (fun hc => ?_) (fun hc => ?_)
  ·have hhn : (bv p).hit (fun i => s.testBit i) j = false := by rw [hhit]; simpa using hc
   refine yR ?_
   refine yM rfl rfl ?_
   refine yM rfl rfl ?_
   refine aa rfl (cg rfl rfl rfl (by omega)) ?_
   refine yA rfl rfl ?_
   refine yN ?_
   dsimp only [St.put]
   refine K13 _ ?_
   refine yR ?_
   refine aa rfl (cg rfl rfl rfl (by omega)) ?_
   refine yM rfl rfl ?_
   refine yN ?_
   dsimp only [St.put]
   have e := uek p C (fun i => s.testBit i) j
   first
   | (have z : (bv p).hit (fun i => s.testBit i) j = true := hhy
      rw [z, cond_true, Int.add_zero] at e
      rw [← e]
      exact ⟨j + 1, by omega, by omega, ⟨⟨rfl, rfl⟩, zF, zB, zN, zX⟩⟩)
   | (have z : (bv p).hit (fun i => s.testBit i) j = false := hhn
      rw [z, cond_false] at e
      rw [Int.add_assoc, ← e]
      exact ⟨j + 1, by omega, by omega, ⟨⟨rfl, rfl⟩, zF, zB, zN, zX⟩⟩)
  have hhy : (bv p).hit (fun i => s.testBit i) j = true := by rw [hhit]; simpa using hc
  refine ax ?_
  refine K13 _ ?_
  refine yR ?_
  refine aa rfl (cg rfl rfl rfl (by omega)) ?_
  refine yM rfl rfl ?_
  refine yN ?_
  dsimp only [St.put]
  have e := uek p C (fun i => s.testBit i) j
  first
  | (have z : (bv p).hit (fun i => s.testBit i) j = true := hhy
     rw [z, cond_true, Int.add_zero] at e
     rw [← e]
     exact ⟨j + 1, by omega, by omega, ⟨⟨rfl, rfl⟩, zF, zB, zN, zX⟩⟩)
  | (have z : (bv p).hit (fun i => s.testBit i) j = false := hhn
     rw [z, cond_false] at e
     rw [Int.add_assoc, ← e]
     exact ⟨j + 1, by omega, by omega, ⟨⟨rfl, rfl⟩, zF, zB, zN, zX⟩⟩)
 replace hc := of_decide_eq_false hc
 obtain rfl : j = p.pages.length := by
  have : ¬ (j : Int) < ((cr p.pages.length C).length : Int) := hc
  rw [hl2] at this
  omega
 refine dg ?_
 refine K9 _ ?_
 refine yS fun _ K16 => ?_
 refine yR ?_
 refine yM rfl rfl ?_
 refine yA rfl rfl ?_
 refine yN ?_
 dsimp only [St.put]
 refine K16 _ ?_
 refine aq ?_
 refine bg rfl (by constructor) zN zS ?_
 exact vi (by rw [ueg, hFR])
set_option maxHeartbeats 1000000 in
theorem tq (p : ah) (R C : Nat → Int) (h : ey p) (hB : Bd p R C) : Pure Tryd.prog 58 [val (ga p R C)] (.v (.int .i64 ((bv p).most R C))) := by
 refine cy Tryd.func58 rfl (fun m => .v) fun G nx => ?_
 simp only [Tryd.ntmps58, List.length_cons, List.length_nil, Nat.reduceAdd, Nat.reduceSub]
 refine bu fun hlt => ?_
 dsimp only at hlt
 have hnr := hB.nr
 have hl1 := jm (ce p) R
 have h64 : 2 ^ ce p ≤ 2 ^ 6 := Nat.pow_le_pow_right (by omega) hnr
 have hpos : 0 < 2 ^ ce p := Nat.two_pow_pos _
 obtain ⟨g, hg⟩ : ∃ g : Nat → Int, (fun s => (bv p).f R C fun i => s.testBit i) = g := ⟨_, rfl⟩
 have hgs : ∀ s : Nat, (bv p).f R C (fun i => s.testBit i) = g s := fun s => congrFun hg s
 have hP : ∀ s : Nat, s ≤ 1000 → Pure Tryd.prog 68 [val (ga p R C), .v (.int .i64 (s : Int))] (.v (.int .i64 (g s))) := fun s hs => by
  have := ucd p R C s h hB hs
  rwa [hgs] at this
 have hgb : ∀ s, -6000000 ≤ g s ∧ g s ≤ 14000000 := fun s => by rw [← hgs]; exact f_bd hB _
 refine yS fun _ K1 => ?_
 refine yR ?_
 try dsimp only [St.put]
 refine yB rfl rfl rfl ?_
 refine yA rfl rfl ?_
 refine yN ?_
 dsimp only [St.put]
 refine K1 _ ?_
 refine yS fun _ K2 => ?_
 refine yR ?_
 try dsimp only [St.put]
 refine bi rfl (c := val (ga p R C)) (jq (cs := cells (ga p R C)) rfl rfl (show 3 ≤ 3 by decide)) ?_
 try dsimp only [St.put]
 refine ae rfl (ay rfl rfl rfl (hP 0 (by omega)) ?_)
 refine yA rfl rfl ?_
 refine yN ?_
 dsimp only [St.put]
 refine K2 _ ?_
 refine yS fun _ K3 => ?_
 refine yS fun _ K4 => ?_
 refine yR ?_
 refine yF rfl rfl rfl rfl ?_
 refine yL rfl rfl rfl ?_
 refine aa rfl (bn rfl rfl (List.length_map _)) ?_
 refine aa rfl (ucw (n := (cr (ce p) R).length) rfl rfl rfl (by rw [hl1]; omega)) ?_
 refine yM rfl rfl ?_
 refine yN ?_
 dsimp only [St.put]
 refine K4 _ ?_
 refine bj ?_
 refine cp 12 ?_
 refine zQ ?_
 refine dl (G) zX ?_
 dsimp only
 refine dj (X := Nat) (fun s => s ≤ 2 ^ ce p) (fun s => 2 ^ ce p - s) (fun s => [(3, .v (.int .i64 (mb g s))), (4, .any), (11, .v (.int .i64 (s : Int)))]) (fun s G' => G') 0 rfl ?_ ?_ (fun _ _ h => h) ?_ ?_ ?_
 ·exact Nat.zero_le _
 ·exact zF
 ·rintro s hI
  exact zL
 ·exact fun _ _ _ _ h => .inl h
 rintro s hI
 dsimp only at hI ⊢
 refine yS fun _ K5 => ?_
 refine yR ?_
 refine aa rfl (cn rfl rfl rfl) ?_
 refine yN ?_
 dsimp only [St.put]
 refine K5 _ ?_
 refine yS fun _ K6 => ?_
 refine ar rfl (fun hc => ?_) (fun hc => ?_)
 ·replace hc := of_decide_eq_true hc
  have hlt : s < 2 ^ ce p := by
   have : (s : Int) < ((2 ^ (cr (ce p) R).length : Nat) : Int) := hc
   rw [hl1] at this
   omega
  have hmb := udb hgb s
  have hgb1 := hgb s
  refine ax ?_
  refine K6 _ ?_
  refine yS fun _ K7 => ?_
  refine bj ?_
  refine yS fun _ K8 => ?_
  refine yR ?_
  refine yM rfl rfl ?_
  refine yA rfl rfl ?_
  refine yN ?_
  dsimp only [St.put]
  refine K8 _ ?_
  refine yR ?_
  refine yM rfl rfl ?_
  try dsimp only [St.put]
  refine bi rfl (c := val (ga p R C)) (jq (cs := cells (ga p R C)) rfl rfl (show 3 ≤ 3 by decide)) ?_
  refine yM rfl rfl ?_
  try dsimp only [St.put]
  refine ae rfl (ay rfl rfl rfl (hP s (by omega)) ?_)
  refine aa rfl (uc0 rfl rfl rfl rfl) ?_
  refine yA rfl rfl ?_
  refine yN ?_
  dsimp only [St.put]
  refine K7 _ ?_
  refine yR ?_
  refine aa rfl (cg rfl rfl rfl (by omega)) ?_
  refine yM rfl rfl ?_
  refine yN ?_
  dsimp only [St.put]
  rw [show min (mb g s) (g s) = mb g (s + 1) from rfl]
  exact ⟨s + 1, by omega, by omega, ⟨⟨rfl, rfl⟩, zF, zB, zN, zX⟩⟩
 replace hc := of_decide_eq_false hc
 obtain rfl : s = 2 ^ ce p := by
  have : ¬ (s : Int) < ((2 ^ (cr (ce p) R).length : Nat) : Int) := hc
  rw [hl1] at this
  omega
 refine dg ?_
 refine K3 _ ?_
 refine yS fun _ K9 => ?_
 refine yR ?_
 refine yM rfl rfl ?_
 refine yA rfl rfl ?_
 refine yN ?_
 dsimp only [St.put]
 refine K9 _ ?_
 refine aq ?_
 refine bg rfl (by constructor) zN zS ?_
 exact vi (by unfold Net.most; rw [hg]; rfl)
theorem uce (p : ah) (R C : Nat → Int) (j : Nat) (x : am) (h : ey p) (hx : p.pages[j]? = some x) : Pure Tryd.prog 66 [val (ga p R C), .v (.int .i64 (j : Int))] (.v (.int .i64 ((bv p).alone R C j))) := by
 refine cy Tryd.func66 rfl (fun m => .v) fun G nx => ?_
 simp only [Tryd.ntmps66, List.length_cons, List.length_nil, Nat.reduceAdd, Nat.reduceSub]
 refine bu fun hlt => ?_
 dsimp only at hlt
 have hjl := (List.getElem?_eq_some_iff.1 hx).1
 have hCj := m8 C hjl
 have hrx := vw hx
 have hn1 := h.nf
 have hn2 := h.ns
 have hnr : ce p = p.firsts.length + p.seconds.length := rfl
 have hrl := yv p x
 refine yS fun _ K1 => ?_
 refine yR ?_
 try dsimp only [St.put]
 refine yB rfl rfl rfl ?_
 refine yA rfl rfl ?_
 refine yN ?_
 dsimp only [St.put]
 refine K1 _ ?_
 refine yS fun _ K2 => ?_
 refine yR ?_
 refine yF rfl rfl rfl rfl ?_
 refine yL rfl rfl rfl ?_
 refine yM rfl rfl ?_
 refine aa rfl (cb rfl rfl rfl rfl (bx (by assumption)) (Enc.len _)) ?_
 refine yL rfl rfl rfl ?_
 refine yA rfl rfl ?_
 refine yN ?_
 dsimp only [St.put]
 refine K2 _ ?_
 refine yS fun _ K3 => ?_
 refine yS fun _ K4 => ?_
 refine yR ?_
 refine yF rfl rfl rfl rfl ?_
 refine yL rfl rfl rfl ?_
 refine yM rfl rfl ?_
 refine aa rfl (cb rfl rfl rfl rfl (bx (by assumption)) (Enc.len _)) ?_
 refine yL rfl rfl rfl ?_
 refine aa rfl (bn rfl rfl (List.length_map _)) ?_
 refine yM rfl rfl ?_
 refine yN ?_
 dsimp only [St.put]
 refine K4 _ ?_
 refine bj ?_
 refine cp 20 ?_
 refine zQ ?_
 refine dl (G) zX ?_
 dsimp only
 refine dj (X := Nat) (fun k => k ≤ (dm p x).length) (fun k => (dm p x).length - k) (fun k => [(5, .v (.int .i64 (ro R (C j) ((dm p x).take k)))), (7, .any), (19, .v (.int .i64 (k : Int)))]) (fun k G' => G') 0 rfl ?_ ?_ (fun _ _ h => h) ?_ ?_ ?_
 ·exact Nat.zero_le _
 ·exact zF
 ·rintro k hI
  exact zL
 ·exact fun _ _ _ _ h => .inl h
 rintro k hI
 dsimp only at hI ⊢
 refine yS fun _ K5 => ?_
 refine yR ?_
 refine aa rfl (cn rfl rfl rfl) ?_
 refine yN ?_
 dsimp only [St.put]
 refine K5 _ ?_
 refine yS fun _ K6 => ?_
 refine ar rfl (fun hc => ?_) (fun hc => ?_)
 ·replace hc := of_decide_eq_true hc
  obtain ⟨zn, hz, hz6⟩ := yu h hx (k := k) (by omega)
  have hRz := m8 R hz6
  refine ax ?_
  refine K6 _ ?_
  refine yS fun _ K7 => ?_
  refine bj ?_
  refine yS fun _ K8 => ?_
  refine yR ?_
  refine aa rfl (cb rfl rfl rfl rfl (bx (by assumption)) (Enc.len _)) ?_
  refine yL rfl rfl rfl ?_
  refine yA rfl rfl ?_
  refine yN ?_
  dsimp only [St.put]
  refine K8 _ ?_
  refine yR ?_
  refine yM rfl rfl ?_
  refine yF rfl rfl rfl rfl ?_
  refine yL rfl rfl rfl ?_
  refine yM rfl rfl ?_
  refine aa rfl (cb rfl rfl rfl rfl (bx (by assumption)) (Enc.len _)) ?_
  refine yL rfl rfl rfl ?_
  refine aa rfl (uc0 rfl rfl rfl rfl) ?_
  refine yA rfl rfl ?_
  refine yN ?_
  dsimp only [St.put]
  refine K7 _ ?_
  refine yR ?_
  refine aa rfl (cg rfl rfl rfl (by omega)) ?_
  refine yM rfl rfl ?_
  refine yN ?_
  dsimp only [St.put]
  have e := ukv (R := R) (c := C j) hz
  rw [Int.toNat_natCast] at e
  rw [← e]
  exact ⟨k + 1, by omega, by omega, ⟨⟨rfl, rfl⟩, zF, zB, zN, zX⟩⟩
 replace hc := of_decide_eq_false hc
 refine dg ?_
 refine K3 _ ?_
 refine yS fun _ K9 => ?_
 refine yR ?_
 refine yM rfl rfl ?_
 refine yA rfl rfl ?_
 refine yN ?_
 dsimp only [St.put]
 refine K9 _ ?_
 refine aq ?_
 refine bg rfl (by constructor) zN zS ?_
 exact vi (by rw [gq (show (dm p x).length ≤ k by omega), unr hx])
end Go.Proofs.YtbbdginipiljdaaDoor
namespace Go.AB
open Go Go.RowKit
/-- what an operation waits for -/
def mq (o : Oper) : List Nat := (o.after.toList.filter fun e => Region.binds .any e).map (·.on)
def nh (l : List Bool) : Nat := (l.filter fun b => !b).length
theorem wb : ∀ {l : List Bool} {i : Nat}, l[i]? = some false → nh (l.set i true) + 1 = nh l
 | [], i, h => by simp at h
 | b :: l, 0, h => by
  simp only [List.getElem?_cons_zero, Option.some.injEq] at h
  subst h
  simp [nh]
 | b :: l, i + 1, h => by
  simp only [List.getElem?_cons_succ] at h
  have ih := wb h
  unfold nh at ih ⊢
  cases b
  ·simp only [List.set_cons_succ, List.filter_cons, Bool.not_false, if_true, List.length_cons]; omega
  ·simp only [List.set_cons_succ, List.filter_cons, Bool.not_true, Bool.false_eq_true, if_false]; omega
theorem ucq {l : List Bool} (h : nh l = 0) (i : Nat) : l[i]? ≠ some false := fun e => by
 have := wb e
 omega
theorem yr {ol : List Oper} {l : List Bool} {i : Nat} (h : i ∈ Region.ready .any ol.toArray l.toArray) (hl : l.length = ol.length) : ∃ o, ol[i]? = some o ∧ l[i]? = some false ∧ ∀ j ∈ mq o, l[j]? = some true := by
 unfold Region.ready at h
 simp only [List.mem_filter, List.mem_range, List.size_toArray, Bool.and_eq_true, Bool.not_eq_true'] at h
 obtain ⟨h1, h2, h3⟩ := h
 obtain ⟨o, ho⟩ : ∃ o, ol[i]? = some o := ⟨_, List.getElem?_eq_getElem h1⟩
 refine ⟨o, ho, ?_, fun j hj => ?_⟩
 ·have e := List.getElem?_eq_getElem (l := l) (i := i) (by omega)
  rw [Array.getD_eq_getD_getElem?, List.getElem?_toArray, e] at h2
  rw [e, ← h2]; rfl
 ·rw [List.getElem?_toArray, ho] at h3
  simp only [Option.map_some, Option.getD_some] at h3
  rw [← Array.all_toList, List.all_eq_true] at h3
  unfold mq at hj
  obtain ⟨e, he, rfl⟩ := List.mem_map.1 hj
  obtain ⟨he1, he2⟩ := List.mem_filter.1 he
  have := h3 e he1
  rw [he2, Bool.not_true, Bool.false_or, Array.getD_eq_getD_getElem?, List.getElem?_toArray] at this
  cases hb : l[e.on]? with
  | none => rw [hb] at this; cases this
  | some b => rw [hb] at this; rw [show b = true from this]
section
variable {P : Program} {ol : List Oper} {K : St → Prop} {late : Nat → Bool}
/-- one operation of what is left, by what holds behind it -/
def AOneI (P : Program) (ol : List Oper) (I : List Bool → St → Prop) (l : List Bool) (i : Nat) (st : St) : Prop :=
 ∃ o, ol[i]? = some o ∧ ((eo ol.toArray st o = some true ∧ EStep P o st (I (l.set i true))) ∨ (eo ol.toArray st o = some false ∧ I (l.set i true) (st.put o.dst (.tup []))))
/-- whether each operation waits only for earlier ones -/
def uh (ol : List Oper) : Bool := (List.range ol.length).all fun i => ((ol[i]?).map fun o => (mq o).all fun j => decide (j < i)).getD true
theorem yp {l : List Bool} (hf : uh ol = true) (hl : l.length = ol.length) (h : Region.ready .any ol.toArray l.toArray = []) : ∀ i, i < ol.length → l[i]? = some true := by
 intro i
 induction i using Nat.strongRecOn with
 | _ i ih =>
  intro hi
  obtain ⟨o, ho⟩ : ∃ o, ol[i]? = some o := ⟨_, List.getElem?_eq_getElem hi⟩
  have e := List.getElem?_eq_getElem (l := l) (i := i) (by omega)
  cases hb : l[i]'(by omega) with
  | true => rw [e, hb]
  | false =>
   exfalso
   have hm : i ∈ Region.ready .any ol.toArray l.toArray := by
    unfold Region.ready
    simp only [List.mem_filter, List.mem_range, List.size_toArray, Bool.and_eq_true, Bool.not_eq_true']
    refine ⟨hi, by rw [Array.getD_eq_getD_getElem?, List.getElem?_toArray, e, hb]; rfl, ?_⟩
    rw [List.getElem?_toArray, ho]
    simp only [Option.map_some, Option.getD_some]
    rw [← Array.all_toList, List.all_eq_true]
    intro e1 he1
    cases hq : Region.binds .any e1 with
    | false => rfl
    | true =>
     rw [Bool.not_true, Bool.false_or, Array.getD_eq_getD_getElem?, List.getElem?_toArray]
     have hj : e1.on ∈ mq o := List.mem_map.2 ⟨e1, List.mem_filter.2 ⟨he1, hq⟩, rfl⟩
     have h1 := List.all_eq_true.1 hf i (List.mem_range.2 hi)
     rw [ho] at h1
     simp only [Option.map_some, Option.getD_some, List.all_eq_true] at h1
     have hlt := of_decide_eq_true (h1 _ hj)
     rw [ih _ hlt (by omega)]; rfl
   rw [h] at hm
   cases hm
theorem ual (I : List Bool → St → Prop) (hf : uh ol = true) (hl : ∀ l st, I l st → l.length = ol.length)
  (hs : ∀ l st i o, I l st → ol[i]? = some o → l[i]? = some false → (∀ j ∈ mq o, l[j]? = some true) → AOneI P ol I l i st)
  (he : ∀ l st, I l st → (∀ i, i < ol.length → l[i]? = some true) → K st) : ∀ (fuel : Nat) (l : List Bool) (st : St), I l st → nh l = fuel → l3 P ol K late fuel l st
 | 0, l, st, hI, h0 => by
  have hr : Region.ready .any ol.toArray l.toArray = [] := by
   cases h : Region.ready .any ol.toArray l.toArray with
   | nil => rfl
   | cons i is =>
    obtain ⟨o, _, h2, _⟩ := yr (i := i) (by rw [h]; exact List.mem_cons_self ..) (hl l st hI)
    exact absurd h2 (ucq h0 i)
  exact g9 (by rw [hr]; rfl) (he l st hI (yp hf (hl l st hI) hr))
 | fuel + 1, l, st, hI, h0 => by
  cases h : Region.ready .any ol.toArray l.toArray with
  | nil => exact g9 (by rw [h]; rfl) (he l st hI (yp hf (hl l st hI) h))
  | cons i is =>
   refine dt (i :: is) (by rw [h]; exact beq_self_eq_true _) (by simp) ?_
   have hall : ∀ js : List Nat, (∀ j ∈ js, j ∈ Region.ready .any ol.toArray l.toArray) → sq P ol K late fuel l st js := by
    intro js
    induction js with
    | nil => intro _; trivial
    | cons j js ih =>
     intro hjs
     refine ⟨?_, ih fun k hk => hjs k (List.mem_cons_of_mem _ hk)⟩
     obtain ⟨o, ho, h2, h3⟩ := yr (hjs j (List.mem_cons_self ..)) (hl l st hI)
     have hn : nh (l.set j true) = fuel := by have := wb h2; omega
     obtain ⟨o', ho', hc⟩ := hs l st j o hI ho h2 h3
     refine ⟨o', ho', ?_⟩
     rcases hc with ⟨hg, hE⟩ | ⟨hg, hE⟩
     ·exact .inl ⟨hg, hE.mono fun st' h' => ual I hf hl hs he fuel _ _ h' hn⟩
     ·exact .inr ⟨hg, ual I hf hl hs he fuel _ _ hE hn⟩
   exact hall (i :: is) fun j hj => by rw [h]; exact hj
end
theorem ujx {w : World} {B B' : Nat} {tt : TypeId} {sz len : Nat} {val : Value} {us us' : List Value} (h : w.ownsRow B tt sz val len us) (k : w.ownsRow B' tt sz val len us') : us = us' := by
 obtain ⟨l1, h1⟩ := h
 obtain ⟨l2, h2⟩ := k
 rcases h1 with ⟨e, h0⟩ | ⟨g, cap, cur, e, _, hh, _, _, _, ht⟩
 ·subst h0
  rw [Nat.zero_mul] at l1 l2
  rw [List.length_eq_zero_iff.1 l1, List.length_eq_zero_iff.1 l2]
 ·rcases h2 with ⟨e', _⟩ | ⟨g', cap', cur', e', _, hh', _, _, _, ht'⟩
  ·rw [e] at e'; cases e'
  ·rw [e] at e'
   cases e'
   rw [hh] at hh'
   cases hh'
   rw [← ht, ← ht']
/-- an own slice laid for good, as a cell of another one holds it -/
theorem uft {P : Program} {ρ : Option Nat} {Q : Exit → St → Prop} {st : St} {c : Code} {α : Type} [Enc α] (m off : Nat) {n ver wv wm len sz verm szm lenm : Nat} {tt ttm : TypeId} {cs ds : List C} (xs : List α) (hM : st.G m = some (.arr verm wm ttm szm lenm ds)) (h0 : ds[off]? = some (.own n ver len)) (hG : st.G n = some (.arr ver wv tt sz len cs)) (hnm : m ≠ n) (hsz : sz = Enc.n α) (hcs : cs = ci xs) (hlen : len = xs.length) (h : AW ρ P c Q { st with G := ak (me st.G n) m (.arr verm wm ttm szm lenm (ds.set off (lst xs))) }) : AW ρ P c Q st := by
 intro E w a hs
 obtain ⟨E', hE, hg', hl⟩ := y5 hs.g xs hG hsz hcs hlen
 obtain ⟨val, us, hT, how, hone, hr, hL, hpos⟩ := hg'.obj m (.arr verm wm ttm szm lenm ds) (by rw [lv hnm]; exact hM)
 obtain ⟨val2, us2, hT2, how2, _, hr2, _, _⟩ := hs.g.obj m _ hM
 have hs2 := hs.evd hE hg'
 have hTT : val = val2 := by
  obtain ⟨ver1, wv1, val1, q1, q2, q3⟩ := hE.T m (hs.g.lt m _ hT2) _ _ _ hT
  rw [hT2] at q1
  simp only [Option.some.injEq, Prod.mk.injEq] at q1
  obtain ⟨rfl, rfl, rfl⟩ := q1
  exact (q3 rfl).1.symm
 subst hTT
 have e1 : us = us2 := ujx how how2
 subst e1
 refine ig (fun _ _ _ hq => ml hE hq) (h E' w a ⟨hs.d.ev hE, hs.sz, hs2.t, ⟨hg'.nx, fun k o ho => ?_, hg'.lt, hg'.tb, hg'.ap, hg'.fresh, hg'.base⟩⟩)
 simp only [ak] at ho
 split at ho
 ·rename_i ek
  subst ek
  simp only [Option.some.injEq] at ho
  subst ho
  refine ⟨val, us, hT, how, fun d hd => ?_, ⟨by rw [hr.1]; simp, fun j d v hd hv => ?_⟩, hL, hpos⟩
  ·rcases List.mem_or_eq_of_mem_set hd with hd | rfl
   ·exact hone d hd
   ·rfl
  ·rw [List.getElem?_set] at hd
   split at hd
   ·rename_i ej
    subst ej
    split at hd
    ·simp only [Option.some.injEq] at hd
     subst hd
     exact hl v (hr2.2 off _ v h0 hv)
    ·cases hd
   ·exact hr.2 j d v hd hv
 ·exact hg'.obj k o ho
theorem ub2 {cs : List C} {i : Nat} {c c0 : C} (h : cs[i]? = some c0) : (putAt cs i [c]).set i c0 = cs := by
 have hl := (List.getElem?_eq_some_iff.1 h).1
 show (cs.set i c).set i c0 = cs
 rw [List.set_set]
 obtain rfl := Option.some.inj ((List.getElem?_eq_getElem hl).symm.trans h)
 exact List.set_getElem_self hl
end Go.AB
namespace Go.AB
open Go Go.RowKit
variable {ρ : Option Nat}
section
variable {P : Program} {ops : Array Oper} {Q : Exit → Act → World → Prop} {S : World → Prop} {late : Nat → Bool}
/-- Values alone: whatever has come up. -/
theorem ugi {S2 : World → Prop} (fin : Act → World → Prop) (fuel : Nat) (hs : Region.noSelect ops = true) (hQ : ∀ (o : Option Tmp) (v : Value) c a w, Q (.panic c) (a.put o v) w → Q (.panic c) a w) :
  ∀ (π : List (Nat × Option Nat)) (listed : Array Bool) (a : Act) (w : World), Closed .any ops listed → mw ops late (fun _ => true) π listed = true →
   (∀ a, fin a w → iu P .any ops Q S late fuel (lu π listed) a w) → gi P ops (je fin) S2 late (fun _ => false) (fun _ => true) π a w → iu P .any ops Q S late (gg π + fuel) listed a w := by
 intro π
 induction π with
 | nil =>
  intro listed a w _ _ hf h
  have := hf a h
  simpa [gg, lu] using this
 | cons p rest ih =>
  obtain ⟨i, m⟩ := p
  intro listed a w hcl hc hf h
  cases m with
  | some j => simp [mw] at hc
  | none =>
   simp only [mw, Bool.and_eq_true] at hc
   obtain ⟨⟨⟨⟨hready, hfree⟩, hsome⟩, hlate⟩, hc2⟩ := hc
   simp only [gi, Bool.false_eq_true, if_false] at h
   cases ho : ops[i]? with
   | none => rw [ho] at hsome; cases hsome
   | some o =>
    rw [ho] at h
    obtain ⟨v, hy, hrest⟩ := h
    have hi : i ∈ Region.ready .any ops listed := by simpa using hready
    have hrec := ih _ _ _ (hcl.set hi) hc2 hf hrest
    have hp : gg ((i, none) :: rest) + fuel = gg rest + fuel + 1 := by simp only [gg]; omega
    rw [hp]
    simp only [if_true] at hy
    exact sv (depth := ops.size) (fun _ => True) ho (Region.noSelect_spec hs) (fun c a w => hQ o.dst v c a w) (.inl fun _ => trivial) (gg rest + fuel) listed a w hcl (Region.free_spec ho hfree) hi hy trivial hrec
end
section
variable (P : Program) (ol : List Oper) (K : St → Prop) (D : List Nat) (late : Nat → Bool)
/-- What is left, in whatever order; b: something late has come up. -/
def lf (b : Bool) (fuel : Nat) (listed : List Bool) (st : St) : Prop :=
 ∀ (E0 : Env) (w0 : World) (Q : Act → World → Prop), (∀ a' w' st' E', Ev E0 w0 E' w' → Sim E' w' st' a' → K st' → Q a' w') →
  ∀ E1 w1 a, Ev E0 w0 E1 w1 → Sim E1 w1 st a → (b = false → ∀ n ∈ D, E1.T n = E0.T n) → iu P .any ol.toArray (je Q) (Keeps E0 (· ∈ D) w0) late fuel listed.toArray a w1
def xu (b : Bool) (fuel : Nat) (listed : List Bool) (i : Nat) (st : St) : Prop :=
 ∃ o, ol[i]? = some o ∧ eo ol.toArray st o = some true ∧ ((b = false ∧ EStep P o st fun st' => n2 D st st' ∧ lf P ol K D late false fuel (listed.set i true) st') ∨ (late i = true ∧ EStep P o st (lf P ol K D late true fuel (listed.set i true))))
def sn (b : Bool) (fuel : Nat) (listed : List Bool) (st : St) : List Nat → Prop
 | [] => True
 | i :: is => xu P ol K D late b fuel listed i st ∧ sn b fuel listed st is
end
section
variable {P : Program} {ol : List Oper} {K : St → Prop} {D : List Nat} {late : Nat → Bool} {b : Bool} {fuel : Nat} {listed : List Bool} {st : St} {i : Nat} {is : List Nat} {o : Oper} {c : C}
theorem si : sn P ol K D late b fuel listed st [] := trivial
theorem sj (h : xu P ol K D late b fuel listed i st) (k : sn P ol K D late b fuel listed st is) : sn P ol K D late b fuel listed st (i :: is) := ⟨h, k⟩
theorem se (hL : late i = true) (hol : ol[i]? = some o) (hg : eo ol.toArray st o = some true) {listed' : List Bool} (hl : listed.set i true = listed') (h : EStep P o st (lf P ol K D late true fuel listed')) : xu P ol K D late b fuel listed i st :=
 ⟨o, hol, hg, .inr ⟨hL, by rw [hl]; exact h⟩⟩
theorem uf5 (hr : (Region.ready .any ol.toArray listed.toArray == []) = true) (h : K st) : lf P ol K D late b fuel listed st := by
 intro E0 w0 Q hQ E1 w1 a hev hs _
 have hr' : Region.ready .any ol.toArray listed.toArray = [] := by simpa using hr
 have hq := hQ a w1 st E1 hev hs h
 cases fuel with
 | zero => exact ⟨hr', hq⟩
 | succ n => exact ⟨fun _ => hq, fun i hi => by rw [hr'] at hi; cases hi⟩
theorem qt (is : List Nat) (hr : (Region.ready .any ol.toArray listed.toArray == is) = true) (hne : is ≠ []) (h : sn P ol K D late b fuel listed st is) : lf P ol K D late b (fuel + 1) listed st := by
 intro E0 w0 Q hQ E1 w1 a hev hs hb
 have hr' : Region.ready .any ol.toArray listed.toArray = is := by simpa using hr
 refine ⟨fun e => absurd (hr'.symm.trans e) hne, fun i hi => ?_⟩
 rw [hr'] at hi
 have hi' : xu P ol K D late b fuel listed i st := by
  clear hr hr' hne
  induction is with
  | nil => cases hi
  | cons j is ih =>
   rcases List.mem_cons.1 hi with rfl | hi
   ·exact h.1
   ·exact ih h.2 hi
 obtain ⟨o, hol, hg, hcase⟩ := hi'
 have ho : ol.toArray[i]? = some o := by simpa using hol
 have hset : listed.toArray.setIfInBounds i true = (listed.set i true).toArray := by simp
 refine wpOp_step ho fun Kr hK => ?_
 rw [if_pos (lm hg hs)]
 rcases hcase with ⟨rfl, h1⟩ | ⟨hL, h1⟩
 ·refine h1 E1 w1 a hs Kr _ fun a' w' st' E' q1 q2 q3 => ?_
  have hk := wz hs q1 q2 q3.1
  refine hK a' w' ⟨.inr fun hS => ⟨fun b j hj => (q1.cell b j (Nat.lt_of_lt_of_le hj (hev.L b))).trans (hS.1 b j hj), fun n hn ver wv val b ht hb' => ?_⟩, ?_⟩
  ·have := hb rfl n hn
   exact ((hk n hn).2 ver wv val b (this.trans ht) hb').trans (hS.2 n hn ver wv val b ht hb')
  ·rw [hset]
   exact q3.2 E0 w0 Q hQ E' w' a' (hev.trans q1) q2 fun e n hn => (hk n hn).1.trans (hb rfl n hn)
 ·refine h1 E1 w1 a hs Kr _ fun a' w' st' E' q1 q2 q3 => ?_
  refine hK a' w' ⟨.inl hL, ?_⟩
  rw [hset]
  exact q3 E0 w0 Q hQ E' w' a' (hev.trans q1) q2 fun e => by cases e
theorem sk {total : Nat} (π : List (Nat × Option Nat)) (fuel : Nat) (listed' : List Bool)
  (hchk : (uac ol.toArray listed.toArray && (Region.noSelect ol.toArray && (mw ol.toArray late (fun _ => true) π listed.toArray && ((lu π listed.toArray).toList == listed' && total == gg π + fuel)))) = true)
  (h : jj P ol.toArray (fun st' => n2 D st st' ∧ lf P ol K D late b fuel listed' st') [] late (fun _ => false) (fun _ => true) π st) : lf P ol K D late b total listed st := by
 simp only [Bool.and_eq_true, beq_iff_eq] at hchk
 obtain ⟨h0, h1, h2, h3, h4⟩ := hchk
 subst h4
 intro E0 w0 Q hQ E1 w1 a hev hs hb
 have hend : lu π listed.toArray = listed'.toArray := by rw [← h3]
 refine ugi (S2 := Keeps E1 (· ∈ ([] : List Nat)) w1) (fun a' w' => iu P .any ol.toArray (je Q) (Keeps E0 (· ∈ D) w0) late fuel listed'.toArray a' w') fuel h1 (fun _ _ _ _ _ h => h) π _ a w1 (ue5 h0) h2 (fun a' h' => by rw [hend]; exact h') ?_
 exact h E1 w1 _ (fun a' w' st' E' q1 q2 q3 => q3.2 E0 w0 Q hQ E' w' a' (hev.trans q1) q2 fun e n hn => ((wz hs q1 q2 q3.1) n hn).1.trans (hb e n hn)) a hs
theorem ufs {id : Nat} {l : List Oper} {Q : Exit → St → Prop} (π : List (Nat × Option Nat)) (late N : Nat → Bool) (fuel : Nat) (listed : List Bool) (D : List Nat) (hm : P.follows .mixedOrders = true)
  (hchk : (rm l && (Region.noSelect l.toArray && (mw l.toArray late N π (Array.replicate l.toArray.size false) && ((lu π (Array.replicate l.toArray.size false)).toList == listed && gg π + fuel == l.toArray.size)))) = true)
  (h : jj P l.toArray (fun st' => n2 D st st' ∧ lf P l (Q .normal) D late false fuel listed st') D late (fun _ => false) N π st) : AW ρ P (.region id l.toArray true) Q st := by
 intro E w a hs
 simp only [Bool.and_eq_true, beq_iff_eq] at hchk
 obtain ⟨h0, h1, h2, h3, h4⟩ := hchk
 have hev : Ev E w E w.drew := Ev.same ((Below.refl _ _).drew) rfl
 have hend : lu π (Array.replicate l.toArray.size false) = listed.toArray := by rw [← h3]
 have key : iu P .any l.toArray (je fun a' w' => nj E w Q .normal a' w') (Keeps E (· ∈ D) w.drew) late (gg π + fuel) (Array.replicate l.toArray.size false) a w.drew := by
  refine xv (fun a' w' => iu P .any l.toArray (je fun a' w' => nj E w Q .normal a' w') (Keeps E (· ∈ D) w.drew) late fuel listed.toArray a' w') fuel h1 (fun _ _ _ _ _ h => h) π _ a w.drew ?_ h2 (Keeps.refl _ _ _) (fun a' h' => by rw [hend]; exact h') ?_
  ·intro j o _ hj
   rw [Array.getD_eq_getD_getElem?, Array.getElem?_replicate] at hj
   split at hj <;> simp at hj
  ·exact h E w.drew _ (fun a' w' st' E' q1 q2 q3 => q3.2 E w.drew _ (fun a2 w2 st2 E2 r1 r2 r3 => ⟨st2, E2, hev.trans r1, r2, r3⟩) E' w' a' q1 q2 fun _ n hn => ((wz hs.drew q1 q2 q3.1) n hn).1) a hs.drew
 rw [h4] at key
 refine ig (Q := je fun a' w' => nj E w Q .normal a' w') ?_ (uab hm h0 (u6 _ _ _ _ key))
 intro e a' w' hq
 cases e with
 | normal => exact hq
 | _ => exact hq.elim
end
/-- Four objects that are changed. -/
theorem ua4 {g H : Nat → Option GObj} {a b c d : Nat} {oa ob oc od : GObj} (ha : H a = some oa) (hb : H b = some ob) (hc : H c = some oc) (hd : H d = some od) (h : ∀ n o, n ≠ a → n ≠ b → n ≠ c → n ≠ d → g n = some o → H n = some o) :
  ∀ n o, ak (ak (ak (ak g a oa) b ob) c oc) d od n = some o → H n = some o := by
 intro n o hn
 by_cases e1 : n = d
 ·subst e1; rw [jo] at hn; rw [hd]; exact hn
 ·rw [ct e1] at hn
  by_cases e2 : n = c
  ·subst e2; rw [jo] at hn; rw [hc]; exact hn
  ·rw [ct e2] at hn
   by_cases e3 : n = b
   ·subst e3; rw [jo] at hn; rw [hb]; exact hn
   ·rw [ct e3] at hn
    by_cases e4 : n = a
    ·subst e4; rw [jo] at hn; rw [ha]; exact hn
    ·rw [ct e4] at hn
     exact h n o e4 e3 e2 e1 hn
end Go.AB
namespace Go.AB
open Go Go.RowKit
section
variable {P : Program} {ol : List Oper} {K : St → Prop} {D : List Nat} {late : Nat → Bool}
theorem uof (I : List Bool → St → Prop) (stop : List Bool → Bool) (hf : uh ol = true) (hl : ∀ l st, I l st → l.length = ol.length) (hall : ∀ l st, I l st → (∀ i, i < ol.length → l[i]? = some true) → stop l = true)
  (hs : ∀ l st i o, I l st → stop l = false → ol[i]? = some o → l[i]? = some false → (∀ j ∈ mq o, l[j]? = some true) → eo ol.toArray st o = some true ∧ EStep P o st fun st' => n2 D st st' ∧ I (l.set i true) st')
  (he : ∀ l st, I l st → stop l = true → lf P ol K D late false (nh l) l st) : ∀ (fuel : Nat) (l : List Bool) (st : St), I l st → nh l = fuel → lf P ol K D late false fuel l st := by
 intro fuel
 induction fuel with
 | zero =>
  intro l st hI h0
  have hz : ∀ i, i < ol.length → l[i]? = some true := fun i hi => by
   have e := List.getElem?_eq_getElem (l := l) (i := i) (by rw [hl l st hI]; exact hi)
   cases hb : l[i]'(by rw [hl l st hI]; exact hi) with
   | true => rw [e, hb]
   | false => exact absurd (by rw [e, hb]) (ucq h0 i)
  have := he l st hI (hall l st hI hz)
  rwa [h0] at this
 | succ fuel ih =>
  intro l st hI h0
  cases hst : stop l with
  | true =>
   have := he l st hI hst
   rwa [h0] at this
  | false =>
   cases h : Region.ready .any ol.toArray l.toArray with
   | nil => rw [hall l st hI (yp hf (hl l st hI) h)] at hst; cases hst
   | cons i is =>
    refine qt (i :: is) (by rw [h]; exact beq_self_eq_true _) (by simp) ?_
    have key : ∀ js : List Nat, (∀ j ∈ js, j ∈ Region.ready .any ol.toArray l.toArray) → sn P ol K D late false fuel l st js := by
     intro js
     induction js with
     | nil => intro _; trivial
     | cons j js ihj =>
      intro hjs
      refine ⟨?_, ihj fun k hk => hjs k (List.mem_cons_of_mem _ hk)⟩
      obtain ⟨o, ho, h2, h3⟩ := yr (hjs j (List.mem_cons_self ..)) (hl l st hI)
      have hn : nh (l.set j true) = fuel := by have := wb h2; omega
      obtain ⟨hg, hE⟩ := hs l st j o hI hst ho h2 h3
      exact ⟨o, ho, hg, .inl ⟨rfl, hE.mono fun st' h' => ⟨h'.1, ih _ _ h'.2 hn⟩⟩⟩
    exact key (i :: is) fun j hj => by rw [h]; exact hj
/-- A state whose slots stand in another order. -/
theorem uoe {b : Bool} {fuel : Nat} {listed : List Bool} {st st' : St} (hn : st.n = st'.n) (hd : st.df = st'.df) (hA : ∀ i, bl st.l st.r i = bl st'.l st'.r i) (hG : st.G = st'.G) (hx : st.nx = st'.nx) (h : lf P ol K D late b fuel listed st') : lf P ol K D late b fuel listed st := by
 intro E0 w0 Q hQ E1 w1 a hev hs hb
 refine h E0 w0 Q hQ E1 w1 a hev ⟨hd ▸ hs.d, hn ▸ hs.sz, fun i v hv => ?_, ?_⟩ hb
 ·have := hs.t i v hv
  rwa [hA] at this
 ·have := hs.g
  rwa [hG, hx] at this
end
theorem ra {st st' : St} {n : Nat} {o : GObj} (h1 : st.G n = some o) (h2 : st'.G n = some o) : n2 [n] st st' := ubi h1 h2 rfl ubh
/-- whether an operation waits for another one -/
def pu (ol : List Oper) (i j : Nat) : Bool := ((ol[i]?).map fun o => (mq o).contains j).getD false
theorem sb {ol : List Oper} {i j : Nat} {o : Oper} (h : pu ol i j = true) (ho : ol[i]? = some o) : j ∈ mq o := by
 unfold pu at h
 rw [ho] at h
 simpa using h
/-- the slots, when so much came up: builds and appends of three lists -/
def adS (A0 : Nat → C) (c8 c9 c15 c16 c22 c23 : C) (b8 b9 b15 b16 b22 b23 : Bool) (i : Nat) : C :=
 bif b8 && Nat.beq 109 i then c8 else bif b9 && Nat.beq 110 i then c9 else bif b15 && Nat.beq 116 i then c15 else bif b16 && Nat.beq 117 i then c16 else bif b22 && Nat.beq 123 i then c22 else bif b23 && Nat.beq 124 i then c23 else A0 i
def adG (G0 G1 G2 G3 : Nat → Option GObj) (b9 b16 b23 : Bool) : Nat → Option GObj := bif b23 then G3 else bif b16 then G2 else bif b9 then G1 else G0
structure AdI (A0 : Nat → C) (c8 c9 c15 c16 c22 c23 : C) (G0 G1 G2 G3 : Nat → Option GObj) (nn df nx : Nat) (b8 b9 b15 b16 b22 b23 : Bool) (st : St) : Prop where
 n : st.n = nn
 df : st.df = df
 nx : st.nx = nx
 A : ∀ i, bl st.l st.r i = adS A0 c8 c9 c15 c16 c22 c23 b8 b9 b15 b16 b22 b23 i
 G : st.G = adG G0 G1 G2 G3 b9 b16 b23
 e9 : b9 = true → b8 = true
 e16 : b16 = true → b15 = true ∧ b9 = true
 e23 : b23 = true → b22 = true ∧ b16 = true
theorem ke {a b i : Nat} (h : Nat.beq a i = true) (hab : Nat.beq a b = false) : Nat.beq b i = false := by
 have := Nat.eq_of_beq_eq_true h
 subst this
 cases e : Nat.beq b a
 ·rfl
 ·have := Nat.eq_of_beq_eq_true e
  subst this
  rw [Nat.beq_refl] at hab; cases hab
end Go.AB
