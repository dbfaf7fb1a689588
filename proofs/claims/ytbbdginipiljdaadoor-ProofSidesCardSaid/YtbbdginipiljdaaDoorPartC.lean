/-
  What the walks through the program rest on: values, states, steps, calls (PaFlow, PbData, PcWorst, PdPlain, PeSets, PfPlain, PgSides, PhApart, PiWhy, PjWhy, PsExamples, PpAdd, PlTruth, PqRest, AbTwin, AbCut, RaStd, OpenE, AbRem, AbBits, QaRef, QbRef, QcRef, RbSides, QdRef, QeRef, KxBefore, QfRef, QgRef, QhRef, QiRef, QjRef, QkRef, PmMore, QlPlain, AbZero, AbGrow, AbCutN, QmRef, RhProves, AbInv, AbMixD, AbInvD).
-/
import Derived.Lib.Hide
import Derived.Test.YtbbdginipiljdaaDoorPartB
import Derived.Shelf.SlicesE.DeleteFunc
import Derived.Deep.Slices
import Derived.Lib.SmallJoins
import Derived.Carry
import Derived.ProofKit
import Derived.OpenShut
namespace Go.AB
/-- a sum -/
def sm : Nat → (Nat → Int) → Int
 | 0, _ => 0
 | n + 1, g => sm n g + g n
theorem ti : ∀ {n : Nat} {g h : Nat → Int}, (∀ i, i < n → g i ≤ h i) → sm n g ≤ sm n h
 | 0, _, _, _ => Int.le_refl _
 | n + 1, g, h, H => by
  have h1 := ti (n := n) fun i hi => H i (by omega)
  have h2 := H n (by omega)
  simp only [sm]; omega
theorem mc : ∀ {n : Nat} {g h : Nat → Int}, (∀ i, i < n → g i = h i) → sm n g = sm n h
 | 0, _, _, _ => rfl
 | n + 1, g, h, H => by
  have h1 := mc (n := n) fun i hi => H i (by omega)
  have h2 := H n (by omega)
  simp only [sm]; omega
theorem ri : ∀ (n : Nat) (g h : Nat → Int), sm n (fun i => g i + h i) = sm n g + sm n h
 | 0, _, _ => rfl
 | n + 1, g, h => by have := ri n g h; simp only [sm]; omega
theorem tg : ∀ (n : Nat) (g h : Nat → Int), sm n (fun i => g i - h i) = sm n g - sm n h
 | 0, _, _ => rfl
 | n + 1, g, h => by have := tg n g h; simp only [sm]; omega
theorem vt : ∀ n : Nat, sm n (fun _ => 0) = 0
 | 0 => rfl
 | n + 1 => by have := vt n; simp only [sm]; omega
theorem uif {n : Nat} {g : Nat → Int} (H : ∀ i, i < n → 0 ≤ g i) : 0 ≤ sm n g := by
 have := ti (g := fun _ => 0) H
 rwa [vt] at this
theorem th : ∀ {n k : Nat} (_ : k < n) (v : Int), sm n (fun i => bif decide (i = k) then v else 0) = v
 | 0, _, h, _ => absurd h (Nat.not_lt_zero _)
 | n + 1, k, h, v => by
  simp only [sm]
  by_cases e : n = k
  ·subst e
   rw [mc (h := fun _ => 0) (fun i hi => by rw [decide_eq_false (by omega)]; rfl), vt, decide_eq_true rfl]
   simp
  ·rw [th (n := n) (by omega) v, decide_eq_false e]
   simp
/-- pages, each with a first and a second reader, or one of them, or none -/
structure Net where
 nF : Nat
 nr : Nat
 np : Nat
 fr : Nat → Option Nat
 sc : Nat → Option Nat
structure Net.Ok (N : Net) : Prop where
 le : N.nF ≤ N.nr
 fr : ∀ j i, N.fr j = some i → i < N.nF
 sc : ∀ j i, N.sc j = some i → N.nF ≤ i ∧ i < N.nr
def ob (S : Nat → Bool) : Option Nat → Bool
 | none => false
 | some i => S i
def Net.hit (N : Net) (S : Nat → Bool) (j : Nat) : Bool := ob S (N.fr j) || ob S (N.sc j)
/-- who reads a page -/
def Net.by (N : Net) (j i : Nat) : Bool := decide (N.fr j = some i) || decide (N.sc j = some i)
/-- what a set of readers proves -/
def Net.f (N : Net) (R C : Nat → Int) (S : Nat → Bool) : Int := sm N.nr (fun i => bif S i then R i else 0) + sm N.np (fun j => bif N.hit S j then 0 else C j)
section
variable {N : Net} {R C : Nat → Int}
theorem Net.Ok.by_lt (h : N.Ok) {j i : Nat} (hb : N.by j i = true) : i < N.nr := by
 simp only [Net.by, Bool.or_eq_true, decide_eq_true_eq] at hb
 rcases hb with e | e
 ·have := h.fr j i e; have := h.le; omega
 ·exact (h.sc j i e).2
theorem Net.hit_iff {S : Nat → Bool} {j : Nat} : N.hit S j = true ↔ ∃ i, N.by j i = true ∧ S i = true := by
 unfold Net.hit Net.by
 constructor
 ·intro h
  rw [Bool.or_eq_true] at h
  rcases h with h | h
  ·cases e : N.fr j with
   | none => rw [e] at h; cases h
   | some i => rw [e] at h; exact ⟨i, by simp, h⟩
  ·cases e : N.sc j with
   | none => rw [e] at h; cases h
   | some i => rw [e] at h; exact ⟨i, by simp, h⟩
 ·rintro ⟨i, h1, h2⟩
  simp only [Bool.or_eq_true, decide_eq_true_eq] at h1 ⊢
  rcases h1 with e | e
  ·rw [e]; exact .inl h2
  ·rw [e]; exact .inr h2
theorem Net.f_congr (hN : N.Ok) {S S' : Nat → Bool} (h : ∀ i, i < N.nr → S i = S' i) : N.f R C S = N.f R C S' := by
 have h2 : ∀ j, N.hit S j = N.hit S' j := fun j => by
  rw [Bool.eq_iff_iff, Net.hit_iff, Net.hit_iff]
  exact ⟨fun ⟨i, q1, q2⟩ => ⟨i, q1, (h i (hN.by_lt q1)) ▸ q2⟩, fun ⟨i, q1, q2⟩ => ⟨i, q1, (h i (hN.by_lt q1)).symm ▸ q2⟩⟩
 have e1 : sm N.nr (fun i => bif S i then R i else 0) = sm N.nr (fun i => bif S' i then R i else 0) := mc fun i hi => by rw [h i hi]
 have e2 : sm N.np (fun j => bif N.hit S j then 0 else C j) = sm N.np (fun j => bif N.hit S' j then 0 else C j) := mc fun j _ => by rw [h2 j]
 unfold Net.f
 rw [e1, e2]
/-- two sets of readers, crossed -/
def m5 (nF : Nat) (S T : Nat → Bool) (i : Nat) : Bool := bif decide (i < nF) then S i || T i else S i && T i
def m4 (nF : Nat) (S T : Nat → Bool) (i : Nat) : Bool := bif decide (i < nF) then S i && T i else S i || T i
theorem Net.cross (hN : N.Ok) (hC : ∀ j, j < N.np → 0 ≤ C j) (S T : Nat → Bool) : N.f R C (m5 N.nF S T) + N.f R C (m4 N.nF S T) ≤ N.f R C S + N.f R C T := by
 have h1 : sm N.nr (fun i => bif m5 N.nF S T i then R i else 0) + sm N.nr (fun i => bif m4 N.nF S T i then R i else 0) = sm N.nr (fun i => bif S i then R i else 0) + sm N.nr (fun i => bif T i then R i else 0) := by
  rw [← ri, ← ri]
  refine mc fun i _ => ?_
  unfold m5 m4
  cases decide (i < N.nF) <;> cases S i <;> cases T i <;> simp
 have h2 : sm N.np (fun j => bif N.hit (m5 N.nF S T) j then 0 else C j) + sm N.np (fun j => bif N.hit (m4 N.nF S T) j then 0 else C j) ≤ sm N.np (fun j => bif N.hit S j then 0 else C j) + sm N.np (fun j => bif N.hit T j then 0 else C j) := by
  rw [← ri, ← ri]
  refine ti fun j hj => ?_
  have hc := hC j hj
  have e1 : ∀ U V : Nat → Bool, ob (m5 N.nF U V) (N.fr j) = (ob U (N.fr j) || ob V (N.fr j)) := fun U V => by
   cases e : N.fr j with
   | none => rfl
   | some i => simp only [ob, m5, decide_eq_true (hN.fr j i e), cond_true]
  have e2 : ∀ U V : Nat → Bool, ob (m4 N.nF U V) (N.fr j) = (ob U (N.fr j) && ob V (N.fr j)) := fun U V => by
   cases e : N.fr j with
   | none => rfl
   | some i => simp only [ob, m4, decide_eq_true (hN.fr j i e), cond_true]
  have e3 : ∀ U V : Nat → Bool, ob (m5 N.nF U V) (N.sc j) = (ob U (N.sc j) && ob V (N.sc j)) := fun U V => by
   cases e : N.sc j with
   | none => rfl
   | some i => have := hN.sc j i e; simp only [ob, m5, decide_eq_false (show ¬ i < N.nF by omega), cond_false]
  have e4 : ∀ U V : Nat → Bool, ob (m4 N.nF U V) (N.sc j) = (ob U (N.sc j) || ob V (N.sc j)) := fun U V => by
   cases e : N.sc j with
   | none => rfl
   | some i => have := hN.sc j i e; simp only [ob, m4, decide_eq_false (show ¬ i < N.nF by omega), cond_false]
  simp only [Net.hit, e1, e2, e3, e4]
  cases ob S (N.fr j) <;> cases ob T (N.fr j) <;> cases ob S (N.sc j) <;> cases ob T (N.sc j) <;> simp <;> omega
 unfold Net.f
 omega
/-- so much less for the readers of a page, and nothing more on it -/
def Net.lessR (N : Net) (R : Nat → Int) (j : Nat) (n : Int) (i : Nat) : Int := bif N.by j i then R i - n else R i
def ed (C : Nat → Int) (j k : Nat) : Int := bif decide (k = j) then 0 else C k
def cnt (S : Nat → Bool) (o : Option Nat) (n : Int) : Int := bif ob S o then n else 0
theorem Net.f_less (hN : N.Ok) {j : Nat} (hj : j < N.np) (n : Int) (S : Nat → Bool) : N.f (N.lessR R j n) (ed C j) S = N.f R C S - cnt S (N.fr j) n - cnt S (N.sc j) n - (bif N.hit S j then 0 else C j) := by
 have h1 : sm N.np (fun k => bif N.hit S k then 0 else ed C j k) = sm N.np (fun k => bif N.hit S k then 0 else C k) - (bif N.hit S j then 0 else C j) := by
  have := th hj (bif N.hit S j then 0 else C j)
  rw [← this, ← tg]
  refine mc fun k _ => ?_
  by_cases e : k = j
  ·subst e; simp [ed]
  ·simp [ed, e]
 have h2 : ∀ o : Option Nat, (∀ i, o = some i → i < N.nr) → sm N.nr (fun i => bif decide (o = some i) then (bif S i then n else 0) else 0) = cnt S o n := fun o ho => by
  cases o with
  | none => simp only [cnt, ob, cond_false]; rw [mc (h := fun _ => 0) (fun i _ => by simp), vt]
  | some k =>
   have := th (ho k rfl) (bif S k then n else 0)
   rw [mc (h := fun i => bif decide (i = k) then (bif S k then n else 0) else 0)]
   ·exact this
   ·intro i _
    by_cases e : i = k
    ·subst e; simp
    ·simp [e, Ne.symm e]
 have h3 : sm N.nr (fun i => bif S i then N.lessR R j n i else 0) = sm N.nr (fun i => bif S i then R i else 0) - cnt S (N.fr j) n - cnt S (N.sc j) n := by
  rw [← h2 (N.fr j) (fun i e => by have := hN.fr j i e; have := hN.le; omega), ← h2 (N.sc j) (fun i e => (hN.sc j i e).2), ← tg, ← tg]
  refine mc fun i _ => ?_
  unfold Net.lessR Net.by
  have hx : ¬ (N.fr j = some i ∧ N.sc j = some i) := fun ⟨q1, q2⟩ => by have := hN.fr j i q1; have := (hN.sc j i q2).1; omega
  by_cases q1 : N.fr j = some i
  ·have q2 : ¬ N.sc j = some i := fun q2 => hx ⟨q1, q2⟩
   cases S i <;> simp [q1, q2]
  ·by_cases q2 : N.sc j = some i
   ·cases S i <;> simp [q1, q2]
   ·cases S i <;> simp [q1, q2]
 unfold Net.f
 rw [h1, h3]
 omega
/-- the least of some numbers, as it is looked for -/
def mh (g : Nat → Int) : Nat → Int
 | 0 => g 0
 | k + 1 => min (mh g k) (g k)
theorem uds {g : Nat → Int} : ∀ {k s : Nat}, s < k ∨ s = 0 → mh g k ≤ g s
 | 0, s, h => by
  obtain rfl : s = 0 := by omega
  exact Int.le_refl _
 | k + 1, s, h => by
  by_cases e : s = k
  ·subst e; exact Int.min_le_right _ _
  ·have := uds (g := g) (k := k) (s := s) (by omega)
   exact Int.le_trans (Int.min_le_left _ _) this
theorem z6 {g : Nat → Int} : ∀ k : Nat, ∃ s, (s < k ∨ s = 0) ∧ mh g k = g s
 | 0 => ⟨0, .inr rfl, rfl⟩
 | k + 1 => by
  obtain ⟨s, h1, h2⟩ := z6 (g := g) k
  by_cases e : mh g k ≤ g k
  ·exact ⟨s, by omega, by rw [mh, Int.min_eq_left e, h2]⟩
  ·exact ⟨k, by omega, by rw [mh, Int.min_eq_right (by omega)]⟩
/-- a set as a number -/
def py (S : Nat → Bool) : Nat → Nat
 | 0 => 0
 | n + 1 => py S n ||| (bif S n then 2 ^ n else 0)
theorem ufw (S : Nat → Bool) : ∀ n, py S n < 2 ^ n
 | 0 => by simp [py]
 | n + 1 => by
  have h := ufw S n
  have h2 : 2 ^ n < 2 ^ (n + 1) := Nat.pow_lt_pow_right (by omega) (by omega)
  unfold py
  refine Nat.or_lt_two_pow (by omega) ?_
  cases S n
  ·exact Nat.two_pow_pos _
  ·exact h2
theorem ufx (S : Nat → Bool) : ∀ n i, (py S n).testBit i = (decide (i < n) && S i)
 | 0, i => by simp [py]
 | n + 1, i => by
  have h := ufx S n i
  unfold py
  rw [Nat.testBit_or, h]
  by_cases e : i = n
  ·subst e
   cases hS : S i <;> simp
  ·have e2 : decide (i < n + 1) = decide (i < n) := by rw [decide_eq_decide]; omega
   rw [e2]
   cases hS : S n
   ·simp
   ·simp only [cond_true, Nat.testBit_two_pow]
    rw [decide_eq_false (Ne.symm e), Bool.or_false]
def Net.most (N : Net) (R C : Nat → Int) : Int := mh (fun s => N.f R C fun i => s.testBit i) (2 ^ N.nr)
theorem Net.most_le (hN : N.Ok) (S : Nat → Bool) : N.most R C ≤ N.f R C S := by
 have h := uds (g := fun s => N.f R C fun i => s.testBit i) (k := 2 ^ N.nr) (s := py S N.nr) (.inl (ufw S _))
 refine Int.le_trans h (Int.le_of_eq (Net.f_congr hN fun i hi => ?_))
 rw [ufx, decide_eq_true hi, Bool.true_and]
theorem Net.most_get (N : Net) (R C : Nat → Int) : ∃ S : Nat → Bool, N.most R C = N.f R C S := by
 obtain ⟨s, _, h⟩ := z6 (g := fun s => N.f R C fun i => s.testBit i) (2 ^ N.nr)
 exact ⟨fun i => s.testBit i, h⟩
def ow (n : Int) (R : Nat → Int) : Option Nat → Int
 | none => n
 | some i => min n (R i)
/-- the most on one page -/
def Net.alone (N : Net) (R C : Nat → Int) (j : Nat) : Int := ow (ow (C j) R (N.fr j)) R (N.sc j)
theorem udr {n m : Int} {o : Option Nat} : m ≤ ow n R o ↔ m ≤ n ∧ ∀ i, o = some i → m ≤ R i := by
 cases o with
 | none => simp [ow]
 | some k => simp only [ow, Int.le_min, Option.some.injEq, forall_eq']
theorem Net.le_alone {j : Nat} {m : Int} : m ≤ N.alone R C j ↔ m ≤ C j ∧ ∀ i, N.by j i = true → m ≤ R i := by
 unfold Net.alone Net.by
 rw [udr, udr]
 simp only [Bool.or_eq_true, decide_eq_true_eq]
 exact ⟨fun ⟨⟨h1, h2⟩, h3⟩ => ⟨h1, fun i hi => hi.elim (h2 i) (h3 i)⟩, fun ⟨h1, h2⟩ => ⟨⟨h1, fun i hi => h2 i (.inl hi)⟩, fun i hi => h2 i (.inr hi)⟩⟩
/-- what remains, and so much less of it -/
theorem Net.less_le (hN : N.Ok) {j : Nat} (hj : j < N.np) {n : Int} (h0 : 0 ≤ n) (hn : n ≤ C j) : n + N.most (N.lessR R j n) (ed C j) ≤ N.most R C := by
 obtain ⟨S, hS⟩ := N.most_get R C
 have h1 := Net.most_le (R := N.lessR R j n) (C := ed C j) hN S
 rw [Net.f_less hN hj] at h1
 rw [hS]
 cases e : N.hit S j
 ·rw [e] at h1
  have e2 := e
  unfold Net.hit at e2
  rw [Bool.or_eq_false_iff] at e2
  simp only [cnt, e2.1, e2.2, cond_false] at h1
  omega
 ·rw [e] at h1
  unfold Net.hit at e
  rw [Bool.or_eq_true] at e
  unfold cnt at h1
  rcases e with q | q
  ·rw [q] at h1
   cases e2 : ob S (N.sc j) <;> rw [e2] at h1 <;> simp only [cond_true, cond_false] at h1 <;> omega
  ·rw [q] at h1
   cases e2 : ob S (N.fr j) <;> rw [e2] at h1 <;> simp only [cond_true, cond_false] at h1 <;> omega
/-- of each page there is a worst number of errors -/
theorem Net.greedy (hN : N.Ok) (hR : ∀ i, i < N.nr → 0 ≤ R i) (hC : ∀ j, j < N.np → 0 ≤ C j) {j : Nat} (hj : j < N.np) : ∃ n : Int, 0 ≤ n ∧ n ≤ N.alone R C j ∧ N.most R C ≤ n + N.most (N.lessR R j n) (ed C j) := by
 -- the largest number that every set allows
 have hcj := hC j hj
 have hal : 0 ≤ N.alone R C j := Net.le_alone.2 ⟨hcj, fun i hi => hR i (hN.by_lt hi)⟩
 have key : ∀ n : Int, 0 ≤ n → n ≤ N.alone R C j → (∀ S, ob S (N.fr j) = true → ob S (N.sc j) = true → N.most R C ≤ N.f R C S - n) → (n = N.alone R C j ∨ ∃ S, ob S (N.fr j) = true ∧ ob S (N.sc j) = true ∧ N.f R C S - n = N.most R C) → N.most R C ≤ n + N.most (N.lessR R j n) (ed C j) := by
  intro n h0 h1 h2 h3
  obtain ⟨S, hS⟩ := N.most_get (N.lessR R j n) (ed C j)
  rw [hS, Net.f_less hN hj]
  have hm := Net.most_le (R := R) (C := C) hN S
  cases e1 : ob S (N.fr j) <;> cases e2 : ob S (N.sc j)
  ·have e : N.hit S j = false := by simp [Net.hit, e1, e2]
   simp only [cnt, e1, e2, e, cond_false]
   -- no reader of the page is in the set
   rcases h3 with h3 | ⟨T, t1, t2, t3⟩
   ·-- as1 much as1 can be: the page itself, or a reader
    by_cases hc : n = C j
    ·omega
    ·have h4 := (Net.le_alone.1 h1).1
     obtain ⟨i, hi, hri⟩ : ∃ i, N.by j i = true ∧ R i = n := by
      refine Classical.byContradiction fun hno => ?_
      have : n + 1 ≤ N.alone R C j := Net.le_alone.2 ⟨by omega, fun i hi => by
       have q1 := (Net.le_alone.1 h1).2 i hi
       have q2 : R i ≠ n := fun q => hno ⟨i, hi, q⟩
       omega⟩
      omega
     -- the set with that reader
     have h5 := Net.most_le (R := R) (C := C) hN (fun k => S k || decide (k = i))
     have h6 : N.f R C (fun k => S k || decide (k = i)) ≤ N.f R C S + R i - C j := by
      have g1 : sm N.nr (fun k => bif (S k || decide (k = i)) then R k else 0) ≤ sm N.nr (fun k => bif S k then R k else 0) + R i := by
       have := th (hN.by_lt hi) (R i)
       rw [← this, ← ri]
       refine ti fun k hk => ?_
       have := hR k hk
       by_cases q : k = i
       ·subst q; cases S k <;> simp <;> omega
       ·cases S k <;> simp [q]
      have g2 : sm N.np (fun k => bif N.hit (fun k => S k || decide (k = i)) k then 0 else C k) ≤ sm N.np (fun k => bif N.hit S k then 0 else C k) - C j := by
       have := th hj (C j)
       rw [← this, ← tg]
       refine ti fun k hk => ?_
       have hck := hC k hk
       have mono : N.hit S k = true → N.hit (fun k => S k || decide (k = i)) k = true := fun q => by
        obtain ⟨x, x1, x2⟩ := Net.hit_iff.1 q
        exact Net.hit_iff.2 ⟨x, x1, by simp [x2]⟩
       by_cases q : k = j
       ·subst q
        rw [show N.hit (fun k => S k || decide (k = i)) k = true from Net.hit_iff.2 ⟨i, hi, by simp⟩, e]
        simp
       ·rw [decide_eq_false q]
        cases q1 : N.hit S k
        ·cases N.hit (fun k => S k || decide (k = i)) k <;> simp <;> omega
        ·rw [mono q1]; simp
      unfold Net.f
      dsimp only
      omega
     omega
   ·-- crossed with a set that has both
    have hx := Net.cross (R := R) (C := ed C j) hN (fun k hk => by unfold ed; cases decide (k = j) <;> simp; exact hC k hk) S T
    have hsub : ∀ U : Nat → Bool, N.f R (ed C j) U = N.f R C U - (bif N.hit U j then 0 else C j) := fun U => by
     have := Net.f_less (R := R) (C := C) hN hj 0 U
     have e0 : N.lessR R j 0 = R := by funext i; unfold Net.lessR; cases N.by j i <;> simp
     rw [e0] at this
     rw [this]
     unfold cnt
     cases ob U (N.fr j) <;> cases ob U (N.sc j) <;> simp
    rw [hsub, hsub, hsub, hsub, e, show N.hit T j = true by simp [Net.hit, t1]] at hx
    obtain ⟨a, ha⟩ : ∃ a, N.fr j = some a := by cases q : N.fr j with
     | none => rw [q] at t1; cases t1
     | some a => exact ⟨a, rfl⟩
    obtain ⟨b, hb⟩ : ∃ b, N.sc j = some b := by cases q : N.sc j with
     | none => rw [q] at t2; cases t2
     | some b => exact ⟨b, rfl⟩
    rw [ha] at t1
    rw [hb] at t2
    have hA : N.hit (m5 N.nF S T) j = true := by
     simp only [Net.hit, ha, ob, m5, decide_eq_true (hN.fr j a ha), cond_true]
     rw [show T a = true from t1]; simp
    have hB : N.hit (m4 N.nF S T) j = true := by
     have := hN.sc j b hb
     simp only [Net.hit, hb, ob, m4, decide_eq_false (show ¬ b < N.nF by omega), cond_false]
     rw [show T b = true from t2]; simp
    rw [hA, hB] at hx
    simp only [cond_true, cond_false] at hx
    have q1 := Net.most_le (R := R) (C := C) hN (m5 N.nF S T)
    have q2 := Net.most_le (R := R) (C := C) hN (m4 N.nF S T)
    omega
  ·have e : N.hit S j = true := by simp [Net.hit, e2]
   simp only [cnt, e1, e2, e, cond_false, cond_true]
   omega
  ·have e : N.hit S j = true := by simp [Net.hit, e1]
   simp only [cnt, e1, e2, e, cond_false, cond_true]
   omega
  ·have e : N.hit S j = true := by simp [Net.hit, e1]
   simp only [cnt, e1, e2, e, cond_true]
   have := h2 S e1 e2
   omega
 by_cases hb : ∀ S, ob S (N.fr j) = true → ob S (N.sc j) = true → N.most R C ≤ N.f R C S - N.alone R C j
 ·exact ⟨_, hal, Int.le_refl _, key _ hal (Int.le_refl _) hb (.inl rfl)⟩
 ·-- the r5 of those that have both
  have : ∃ m : Int, (∃ S, ob S (N.fr j) = true ∧ ob S (N.sc j) = true ∧ N.f R C S = m) ∧ ∀ S, ob S (N.fr j) = true → ob S (N.sc j) = true → m ≤ N.f R C S := by
   obtain ⟨S0, s1, s2⟩ : ∃ S, ob S (N.fr j) = true ∧ ob S (N.sc j) = true := by
    refine Classical.byContradiction fun hno => hb fun S h1 h2 => absurd ⟨S, h1, h2⟩ hno
   have hlow : ∀ S, ob S (N.fr j) = true → ob S (N.sc j) = true → N.most R C ≤ N.f R C S := fun S _ _ => Net.most_le hN S
   generalize hd : (N.f R C S0 - N.most R C).toNat = d
   induction d using Nat.strongRecOn generalizing S0 with
   | _ d ih =>
    by_cases hmin : ∀ S, ob S (N.fr j) = true → ob S (N.sc j) = true → N.f R C S0 ≤ N.f R C S
    ·exact ⟨_, ⟨S0, s1, s2, rfl⟩, hmin⟩
    ·obtain ⟨S1, hS1⟩ := Classical.not_forall.1 hmin
     obtain ⟨t1, hS2⟩ := Classical.not_imp.1 hS1
     obtain ⟨t2, hS3⟩ := Classical.not_imp.1 hS2
     have hl1 := hlow S1 t1 t2
     have hl0 := hlow S0 s1 s2
     exact ih _ (by omega) S1 t1 t2 rfl
  obtain ⟨m, ⟨S, q1, q2, q3⟩, q4⟩ := this
  have hm := Net.most_le (R := R) (C := C) hN S
  have hlt : m - N.most R C < N.alone R C j := by
   refine Classical.byContradiction fun hno => hb fun T t1 t2 => ?_
   have := q4 T t1 t2
   omega
  exact ⟨m - N.most R C, by omega, by omega, key _ (by omega) (by omega) (fun T t1 t2 => by have := q4 T t1 t2; omega) (.inr ⟨S, q1, q2, by omega⟩)⟩
end
end Go.AB
namespace Go.PB
structure bj where
 id : Int
 miss : Int
 deriving DecidableEq
structure am where
 fr : Int
 to : Int
 fst : Int
 snd : Int
 found : List PlaceD
 well : List PlaceD
 deriving DecidableEq
structure af where
 text : ai
 firsts : List bj
 seconds : List bj
 pages : List am
 deriving DecidableEq
/-- proofs at work -/
structure ci where
 p : af
 words : List Int
 all : List (List PlaceD)
 both : List (List PlaceD)
structure bi where
 lo : Int
 hi : Int
 deriving DecidableEq
end Go.PB
namespace Go.AB
open Go Go.RowKit
open Go.AB.Enc (cells)
open Go.PB (ar ai PlaceD az bf ba bj am af ci bi)
instance : Enc bj := ⟨fun x => [.v (.int .i64 x.id), .v (.int .i64 x.miss)], 2, fun _ => rfl, fun m x c h => by
 simp only [List.mem_cons, List.not_mem_nil, or_false] at h; rcases h with rfl | rfl <;> exact .v, fun x c h => by
 simp only [List.mem_cons, List.not_mem_nil, or_false] at h; rcases h with rfl | rfl <;> rfl⟩
instance : Enc bi := ⟨fun x => [.v (.int .i64 x.lo), .v (.int .i64 x.hi)], 2, fun _ => rfl, fun m x c h => by
 simp only [List.mem_cons, List.not_mem_nil, or_false] at h; rcases h with rfl | rfl <;> exact .v, fun x c h => by
 simp only [List.mem_cons, List.not_mem_nil, or_false] at h; rcases h with rfl | rfl <;> rfl⟩
instance : Enc am := ⟨fun x => [.v (.int .i64 x.fr), .v (.int .i64 x.to), .v (.int .i64 x.fst), .v (.int .i64 x.snd), lst x.found, lst x.well], 6, fun _ => rfl, fun m x c h => by
 simp only [List.mem_cons, List.not_mem_nil, or_false] at h
 rcases h with rfl | rfl | rfl | rfl | rfl | rfl
 ·exact .v
 ·exact .v
 ·exact .v
 ·exact .v
 ·exact bp m _
 ·exact bp m _, fun x c h => by
 simp only [List.mem_cons, List.not_mem_nil, or_false] at h; rcases h with rfl | rfl | rfl | rfl | rfl | rfl <;> rfl⟩
instance : Enc af := ⟨fun x => [lst x.text, lst x.firsts, lst x.seconds, lst x.pages], 4, fun _ => rfl, fun m x c h => by
 simp only [List.mem_cons, List.not_mem_nil, or_false] at h
 rcases h with rfl | rfl | rfl | rfl
 ·exact bp m _
 ·exact bp m _
 ·exact bp m _
 ·exact bp m _, fun x c h => by
 simp only [List.mem_cons, List.not_mem_nil, or_false] at h; rcases h with rfl | rfl | rfl | rfl <;> rfl⟩
/-! ### Lines of a text -/
/-- the number of a chapter's first line -/
def fq (t : ai) (k : Nat) : Nat := ((t.take k).map fun c => c.lines.length).sum
theorem ubv (t : ai) : fq t 0 = 0 := by simp [fq]
theorem tf {t : ai} {k : Nat} {c : ar} (h : t[k]? = some c) : fq t (k + 1) = fq t k + c.lines.length := by
 unfold fq
 rw [List.take_add_one, h]
 simp
def ms (t : ai) : Nat := fq t t.length
/-- the number of the line of a place -/
def ql (t : ai) (q : PlaceD) : Int := q.ln + (fq t q.ch.toNat : Int)
def gx (t : ai) (x : am) (q : PlaceD) : Bool := inB (ql t q) x.fr x.to
/-! ### Valid proofs -/
def na (a b : PlaceD) : Bool := decide (ez (cw a) (cw b) < 0)
/-- a place of a list may stand where it does -/
def jl (t : ai) (x : am) (l : List PlaceD) (i : Nat) : Bool := match l[i]? with
 | none => true
 | some q => fp t q && gx t x q && (decide (i = 0) || match l[i - 1]? with | none => true | some a => na a q)
def dn (t : ai) (x : am) (l : List PlaceD) (n : Nat) : Bool := (List.range n).all (jl t x l)
theorem gr (t : ai) (x : am) (l : List PlaceD) (n : Nat) : dn t x l (n + 1) = (dn t x l n && jl t x l n) := by
 unfold dn
 rw [List.range_succ, List.all_append]
 simp
def gz (t : ai) (x : am) (r : Int) (l : List PlaceD) : Bool := (decide (0 ≤ r) || decide (l = [])) && dn t x l l.length
def gj (r : bj) : Bool := inB r.id 0 9999 && inB r.miss 0 90
def jk (p : af) : Bool := decide (p.firsts.length ≤ 3) && decide (p.seconds.length ≤ 3) && (p.firsts ++ p.seconds).all gj && decide ((p.firsts ++ p.seconds).map (·.id)).Nodup
def kb (p : af) (last : Int) (x : am) : Bool := decide (last < x.fr) && decide (x.fr ≤ x.to) && decide (x.to < (ms p.text : Int)) && inB x.fst (-1) ((p.firsts.length : Int) - 1) && gz p.text x x.fst x.found && inB x.snd (-1) ((p.seconds.length : Int) - 1) && gz p.text x x.snd x.well
/-- the last line ahead of a page -/
def gq (l : List am) : Nat → Int
 | 0 => -1
 | i + 1 => match l[i]? with | some x => x.to | none => -1
def qg (p : af) (i : Nat) : Bool := match p.pages[i]? with
 | none => true
 | some x => kb p (gq p.pages i) x
def qf (p : af) (n : Nat) : Bool := (List.range n).all (qg p)
theorem ucv (p : af) (n : Nat) : qf p (n + 1) = (qf p n && qg p n) := by
 unfold qf
 rw [List.range_succ, List.all_append]
 simp
def fh (p : af) : Bool := jk p && decide (p.pages.length ≤ 8) && qf p p.pages.length
def cc (p : af) : Int := bif dp p.text then (bif fh p then 0 else 90) else 10
/-! ### What is found on a page -/
def d8 (t : ai) (x : am) : List PlaceD := (gh t).filter fun q => decide (q ∈ x.found) || decide (q ∈ x.well)
def da (t : ai) (x : am) : List PlaceD := (gh t).filter fun q => decide (q ∈ x.found) && decide (q ∈ x.well)
def fa (t : ai) (x : am) : Nat := ((gh t).filter (gx t x)).length
/-! ### Bounds of readers -/
def er (b : Bool) (x : am) : Int := bif b then x.snd else x.fst
def dc (b : Bool) (x : am) : List PlaceD := bif b then x.well else x.found
def du (p : af) (b : Bool) : List bj := bif b then p.seconds else p.firsts
def dt (l : List am) (g : am → Nat) : Nat := (l.map g).sum
theorem td {l : List am} {k : Nat} {x : am} {g : am → Nat} (h : l[k]? = some x) : dt (l.take (k + 1)) g = dt (l.take k) g + g x := by
 unfold dt
 rw [List.take_add_one, h]
 simp
def gg (b : Bool) (i : Int) (x : am) : Nat := bif decide (er b x = i) then (dc b x).length else 0
def iu (t : ai) (b : Bool) (i : Int) (x : am) : Nat := bif decide (er b x = i) then (d8 t x).length else 0
def kf (p : af) (b : Bool) (i : Nat) : Int := match (du p b)[i]? with | some r => r.miss | none => 0
def lk (p : af) (b : Bool) (i : Nat) : Int := 100 * (dt p.pages (gg b i) : Int) / (100 - kf p b i)
def mw (p : af) (b : Bool) (i : Nat) : Int := lk p b i - (dt p.pages (iu p.text b i) : Int)
/-! ### What may remain -/
def cb (p : af) : Nat := p.firsts.length + p.seconds.length
def ck (p : af) (i : Nat) : Int := bif decide (i < p.firsts.length) then mw p false i else mw p true (i - p.firsts.length)
def pu (t : ai) (x : am) : Int := (fa t x : Int) - ((d8 t x).length : Int)
def jc (p : af) : Bool := (List.range (cb p)).all fun i => decide (0 ≤ ck p i)
def bn (p : af) : Net where
 nF := p.firsts.length
 nr := cb p
 np := p.pages.length
 fr := fun j => match p.pages[j]? with | some x => (bif decide (0 ≤ x.fst) then some x.fst.toNat else none) | none => none
 sc := fun j => match p.pages[j]? with | some x => (bif decide (0 ≤ x.snd) then some (p.firsts.length + x.snd.toNat) else none) | none => none
end Go.AB
namespace Go.AB
/-- so much on a page is the most of what loses nothing -/
structure Net.Pick (N : Net) (R C : Nat → Int) (j : Nat) (n : Int) : Prop where
 nn : 0 ≤ n
 le : n ≤ N.alone R C j
 ok : N.most R C ≤ n + N.most (N.lessR R j n) (ed C j)
 max : ∀ m, n < m → m ≤ N.alone R C j → ¬ N.most R C ≤ m + N.most (N.lessR R j m) (ed C j)
section
variable {N : Net} {R C : Nat → Int}
theorem Net.Pick.uniq {j : Nat} {n m : Int} (h : N.Pick R C j n) (k : N.Pick R C j m) : n = m := by
 rcases Int.lt_trichotomy n m with q | q | q
 ·exact absurd k.ok (h.max m q k.le)
 ·exact q
 ·exact absurd h.ok (k.max n q h.le)
theorem Net.pick_ex (hN : N.Ok) (hR : ∀ i, i < N.nr → 0 ≤ R i) (hC : ∀ j, j < N.np → 0 ≤ C j) {j : Nat} (hj : j < N.np) : ∃ n, N.Pick R C j n := by
 obtain ⟨n, h1, h2, h3⟩ := Net.greedy hN hR hC hj
 generalize hd : (N.alone R C j - n).toNat = d
 induction d using Nat.strongRecOn generalizing n with
 | _ d ih =>
  by_cases hmax : ∀ m, n < m → m ≤ N.alone R C j → ¬ N.most R C ≤ m + N.most (N.lessR R j m) (ed C j)
  ·exact ⟨n, h1, h2, h3, hmax⟩
  ·obtain ⟨m, hm⟩ := Classical.not_forall.1 hmax
   obtain ⟨q1, hm⟩ := Classical.not_imp.1 hm
   obtain ⟨q2, hm⟩ := Classical.not_imp.1 hm
   exact ih _ (by omega) m (by omega) q2 (Classical.not_not.1 hm) rfl
open Classical in
noncomputable def Net.pick (N : Net) (R C : Nat → Int) (j : Nat) : Int := if h : ∃ n, N.Pick R C j n then h.choose else 0
theorem Net.pick_spec {j : Nat} (h : ∃ n, N.Pick R C j n) : N.Pick R C j (N.pick R C j) := by
 unfold Net.pick
 rw [dif_pos h]
 exact h.choose_spec
theorem Net.pick_eq {j : Nat} {n : Int} (h : N.Pick R C j n) : N.pick R C j = n := (Net.pick_spec ⟨n, h⟩).uniq h
/-- what may remain ahead of a page, by the worst truth -/
noncomputable def Net.room (N : Net) (R C : Nat → Int) : Nat → (Nat → Int) × (Nat → Int)
 | 0 => (R, C)
 | i + 1 => (N.lessR (N.room R C i).1 i (N.pick (N.room R C i).1 (N.room R C i).2 i), ed (N.room R C i).2 i)
/-- the worst truth -/
noncomputable def Net.worst (N : Net) (R C : Nat → Int) (i : Nat) : Int := N.pick (N.room R C i).1 (N.room R C i).2 i
theorem Net.room_succ (i : Nat) : N.room R C (i + 1) = (N.lessR (N.room R C i).1 i (N.worst R C i), ed (N.room R C i).2 i) := rfl
structure Net.RoomOk (N : Net) (R C : Nat → Int) (i : Nat) : Prop where
 rnn : ∀ r, r < N.nr → 0 ≤ (N.room R C i).1 r
 cnn : ∀ j, j < N.np → 0 ≤ (N.room R C i).2 j
 all : N.most (N.room R C i).1 (N.room R C i).2 = N.most R C - sm i (N.worst R C)
 caps : ∀ j, (N.room R C i).2 j = bif decide (j < i) then 0 else C j
 rds : ∀ r, (N.room R C i).1 r = R r - sm i (fun j => bif N.by j r then N.worst R C j else 0)
theorem Net.room_ok (hN : N.Ok) (hR : ∀ i, i < N.nr → 0 ≤ R i) (hC : ∀ j, j < N.np → 0 ≤ C j) : ∀ i, i ≤ N.np → N.RoomOk R C i
 | 0, _ => ⟨hR, hC, by simp [Net.room, sm], fun j => by simp [Net.room], fun r => by simp [Net.room, sm]⟩
 | i + 1, hi => by
  have h := Net.room_ok hN hR hC i (by omega)
  have hp : N.Pick (N.room R C i).1 (N.room R C i).2 i (N.worst R C i) := Net.pick_spec (Net.pick_ex hN h.rnn h.cnn (by omega))
  have hal := Net.le_alone.1 hp.le
  have hle := Net.less_le (R := (N.room R C i).1) (C := (N.room R C i).2) hN (show i < N.np by omega) hp.nn hal.1
  have hok := hp.ok
  refine ⟨fun r hr => ?_, fun j hj => ?_, ?_, fun j => ?_, fun r => ?_⟩
  ·rw [Net.room_succ]
   show 0 ≤ N.lessR _ i _ r
   unfold Net.lessR
   cases hb : N.by i r
   ·exact h.rnn r hr
   ·have := hal.2 r hb
    simp only [cond_true]; omega
  ·rw [Net.room_succ]
   show 0 ≤ ed _ i j
   unfold ed
   cases decide (j = i)
   ·exact h.cnn j hj
   ·exact Int.le_refl _
  ·rw [Net.room_succ]
   have := h.all
   simp only [sm]
   show N.most (N.lessR _ i _) (ed _ i) = _
   omega
  ·rw [Net.room_succ]
   show ed _ i j = _
   unfold ed
   rw [h.caps j]
   by_cases e : j = i
   ·subst e; simp
   ·rw [decide_eq_false e, cond_false, show decide (j < i + 1) = decide (j < i) by rw [decide_eq_decide]; omega]
  ·rw [Net.room_succ]
   show N.lessR _ i _ r = _
   unfold Net.lessR
   rw [h.rds r]
   simp only [sm]
   cases N.by i r <;> simp <;> omega
theorem Net.worst_pick (hN : N.Ok) (hR : ∀ i, i < N.nr → 0 ≤ R i) (hC : ∀ j, j < N.np → 0 ≤ C j) {i : Nat} (hi : i < N.np) : N.Pick (N.room R C i).1 (N.room R C i).2 i (N.worst R C i) := by
 have h := Net.room_ok hN hR hC i (by omega)
 exact Net.pick_spec (Net.pick_ex hN h.rnn h.cnn hi)
end
end Go.AB
namespace Go.AB
open Go Go.RowKit
open Go.AB.Enc (cells)
open Go.PB (ar ai PlaceD az bf ba bj am af ci bi)
theorem sumL_sm (g : am → Nat) : ∀ l : List am, ((dt l g : Nat) : Int) = sm l.length (fun j => match l[j]? with | some x => (g x : Int) | none => 0) := by
 intro l
 have key : ∀ k, k ≤ l.length → ((dt (l.take k) g : Nat) : Int) = sm k (fun j => match l[j]? with | some x => (g x : Int) | none => 0) := by
  intro k
  induction k with
  | zero => intro _; rfl
  | succ k ih =>
   intro hk
   have hx : l[k]? = some l[k] := List.getElem?_eq_getElem (by omega)
   rw [td hx]
   simp only [sm, hx]
   have := ih (by omega)
   omega
 have := key l.length (Nat.le_refl _)
 rwa [List.take_length] at this
/-! ### What valid proofs are -/
structure fg (p : af) : Prop where
 text : dp p.text = true
 nf : p.firsts.length ≤ 3
 ns : p.seconds.length ≤ 3
 np : p.pages.length ≤ 8
 rd : ∀ r ∈ p.firsts ++ p.seconds, gj r = true
 page : ∀ (j : Nat) (x : am), p.pages[j]? = some x → kb p (gq p.pages j) x = true
theorem j9 {p : af} (h : cc p = 0) : fg p ∧ fh p = true := by
 unfold cc at h
 cases ht : dp p.text
 ·rw [ht] at h; simp at h
 ·cases hp : fh p
  ·rw [ht, hp] at h; simp at h
  ·refine ⟨?_, rfl⟩
   unfold fh jk at hp
   simp only [Bool.and_eq_true, decide_eq_true_eq] at hp
   obtain ⟨⟨⟨⟨⟨h1, h2⟩, h3⟩, _⟩, h5⟩, h6⟩ := hp
   refine ⟨ht, h1, h2, h5, fun r hr => List.all_eq_true.1 h3 r hr, fun j x hx => ?_⟩
   have hj := (List.getElem?_eq_some_iff.1 hx).1
   have := List.all_eq_true.1 h6 j (List.mem_range.2 hj)
   unfold qg at this
   rw [hx] at this
   exact this
structure n8 (p : af) (last : Int) (x : am) : Prop where
 fr : last < x.fr
 to : x.fr ≤ x.to
 lt : x.to < (ms p.text : Int)
 fst : -1 ≤ x.fst ∧ x.fst ≤ (p.firsts.length : Int) - 1
 snd : -1 ≤ x.snd ∧ x.snd ≤ (p.seconds.length : Int) - 1
 found : gz p.text x x.fst x.found = true
 well : gz p.text x x.snd x.well = true
theorem pageB_true {p : af} {last : Int} {x : am} : kb p last x = true ↔ n8 p last x := by
 unfold kb
 simp only [Bool.and_eq_true, decide_eq_true_eq, inB_true]
 exact ⟨fun ⟨⟨⟨⟨⟨⟨h1, h2⟩, h3⟩, h4⟩, h5⟩, h6⟩, h7⟩ => ⟨h1, h2, h3, h4, h6, h5, h7⟩, fun h => ⟨⟨⟨⟨⟨⟨h.fr, h.to⟩, h.lt⟩, h.fst⟩, h.found⟩, h.snd⟩, h.well⟩⟩
theorem my {t : ai} {x : am} {r : Int} {l : List PlaceD} (h : gz t x r l = true) {q : PlaceD} (hq : q ∈ l) : fp t q = true ∧ gx t x q = true := by
 unfold gz at h
 rw [Bool.and_eq_true] at h
 obtain ⟨i, hi⟩ := List.getElem?_of_mem hq
 have := List.all_eq_true.1 h.2 i (List.mem_range.2 (List.getElem?_eq_some_iff.1 hi).1)
 unfold jl at this
 rw [hi] at this
 simp only [Bool.and_eq_true] at this
 exact this.1
theorem umu {t : ai} {x : am} {r : Int} {l : List PlaceD} (h : gz t x r l = true) {i : Nat} {a q : PlaceD} (ha : l[i]? = some a) (hq : l[i + 1]? = some q) : ez (cw a) (cw q) < 0 := by
 unfold gz at h
 rw [Bool.and_eq_true] at h
 have := List.all_eq_true.1 h.2 (i + 1) (List.mem_range.2 (List.getElem?_eq_some_iff.1 hq).1)
 unfold jl at this
 rw [hq, Nat.add_sub_cancel, ha] at this
 have h9 : (fp t q = true ∧ gx t x q = true) ∧ ez (cw a) (cw q) < 0 := by simpa [na] using this
 exact h9.2
theorem uf0 {a b c : PlaceD} (h : ez (cw a) (cw b) < 0) (k : ez (cw b) (cw c) < 0) : ez (cw a) (cw c) < 0 := by
 rw [n4 (by rfl)] at h k ⊢
 exact rz h k
theorem uaz (a : PlaceD) : ¬ ez (cw a) (cw a) < 0 := by
 rw [n4 (by rfl)]
 exact ph _
theorem uh6 {l : List PlaceD} (h : ∀ (i : Nat) (a q : PlaceD), l[i]? = some a → l[i + 1]? = some q → ez (cw a) (cw q) < 0) : l.Pairwise fun a b => ez (cw a) (cw b) < 0 := by
 rw [List.pairwise_iff_getElem]
 intro i j hi hj hij
 have key : ∀ d (hd : i + 1 + d < l.length), ez (cw l[i]) (cw l[i + 1 + d]) < 0 := by
  intro d
  induction d with
  | zero => intro hd; exact h i _ _ (List.getElem?_eq_getElem hi) (List.getElem?_eq_getElem hd)
  | succ d ih =>
   intro hd
   exact uf0 (ih (by omega)) (h (i + 1 + d) _ _ (List.getElem?_eq_getElem (by omega)) (List.getElem?_eq_getElem hd))
 have := key (j - (i + 1)) (by omega)
 simpa [show i + 1 + (j - (i + 1)) = j by omega] using this
theorem xg {t : ai} {x : am} {r : Int} {l : List PlaceD} (h : gz t x r l = true) : l.Pairwise fun a b => ez (cw a) (cw b) < 0 := uh6 fun _ _ _ ha hq => umu h ha hq
/-- lists in order, with the same places -/
theorem vr : ∀ {l m : List PlaceD}, l.Pairwise (fun a b => ez (cw a) (cw b) < 0) → m.Pairwise (fun a b => ez (cw a) (cw b) < 0) → (∀ q, q ∈ l ↔ q ∈ m) → l = m
 | [], [], _, _, _ => rfl
 | [], b :: m, _, _, h => by have := (h b).2 (List.mem_cons_self ..); cases this
 | a :: l, [], _, _, h => by have := (h a).1 (List.mem_cons_self ..); cases this
 | a :: l, b :: m, h1, h2, h => by
  rw [List.pairwise_cons] at h1 h2
  have hab : a = b := by
   have p1 := (h a).1 (List.mem_cons_self ..)
   have p2 := (h b).2 (List.mem_cons_self ..)
   rw [List.mem_cons] at p1 p2
   rcases p1 with rfl | p1
   ·rfl
   ·rcases p2 with rfl | p2
    ·rfl
    ·exact absurd (uf0 (h1.1 b p2) (h2.1 a p1)) (uaz a)
  subst hab
  rw [vr h1.2 h2.2 fun q => ?_]
  constructor
  ·intro hq
   have := (h q).1 (List.mem_cons_of_mem _ hq)
   rw [List.mem_cons] at this
   rcases this with rfl | this
   ·exact absurd (h1.1 q hq) (uaz q)
   ·exact this
  ·intro hq
   have := (h q).2 (List.mem_cons_of_mem _ hq)
   rw [List.mem_cons] at this
   rcases this with rfl | this
   ·exact absurd (h2.1 q hq) (uaz q)
   ·exact this
/-! ### Pages between readers -/
def rp (p : af) (j : Nat) (g : am → Int) : Int := match p.pages[j]? with | some x => g x | none => 0
theorem uj6 {p : af} {j : Nat} {x : am} (h : p.pages[j]? = some x) (g : am → Int) : rp p j g = g x := by unfold rp; rw [h]
def dg (p : af) (j : Nat) : Int := rp p j (pu p.text)
theorem t7 {p : af} (h : fg p) : (bn p).Ok := by
 refine ⟨Nat.le_add_right _ _, fun j i hi => ?_, fun j i hi => ?_⟩
 ·simp only [bn] at hi ⊢
  cases hx : p.pages[j]? with
  | none => rw [hx] at hi; cases hi
  | some x =>
   rw [hx] at hi
   have hp := (pageB_true.1 (h.page j x hx)).fst
   dsimp only at hi
   by_cases q : 0 ≤ x.fst
   ·rw [decide_eq_true q, cond_true, Option.some.injEq] at hi
    omega
   ·rw [decide_eq_false q] at hi; cases hi
 ·simp only [bn, cb] at hi ⊢
  cases hx : p.pages[j]? with
  | none => rw [hx] at hi; cases hi
  | some x =>
   rw [hx] at hi
   have hp := (pageB_true.1 (h.page j x hx)).snd
   dsimp only at hi
   by_cases q : 0 ≤ x.snd
   ·rw [decide_eq_true q, cond_true, Option.some.injEq] at hi
    omega
   ·rw [decide_eq_false q] at hi; cases hi
/-- the readers of a page, as the program lists them -/
def di (p : af) (x : am) : List Int := (bif decide (0 ≤ x.fst) then [x.fst] else []) ++ (bif decide (0 ≤ x.snd) then [(p.firsts.length : Int) + x.snd] else [])
theorem umi {p : af} {j : Nat} {x : am} (hx : p.pages[j]? = some x) (S : Nat → Bool) : (bn p).hit S j = (di p x).any fun k => S k.toNat := by
 simp only [Net.hit, bn, hx, di, List.any_append]
 congr 1
 ·cases decide (0 ≤ x.fst) <;> simp [ob]
 ·by_cases q : 0 ≤ x.snd
  ·simp [q, ob, show ((p.firsts.length : Int) + x.snd).toNat = p.firsts.length + x.snd.toNat by omega]
  ·simp [q, ob]
theorem xn {p : af} (h : fg p) {j : Nat} {x : am} (hx : p.pages[j]? = some x) (i : Nat) : (bn p).by j i = bif decide (i < p.firsts.length) then decide (er false x = (i : Int)) else decide (er true x = ((i - p.firsts.length : Nat) : Int)) := by
 have hp := pageB_true.1 (h.page j x hx)
 have h1 := hp.fst
 have h2 := hp.snd
 simp only [Net.by, bn, hx]
 rw [Bool.eq_iff_iff]
 by_cases hi : i < p.firsts.length
 ·rw [decide_eq_true hi, cond_true, Bool.or_eq_true, decide_eq_true_eq, decide_eq_true_eq, decide_eq_true_eq]
  show _ ↔ x.fst = (i : Int)
  constructor
  ·rintro (q | q)
   ·by_cases z : 0 ≤ x.fst
    ·rw [decide_eq_true z, cond_true, Option.some.injEq] at q; omega
    ·rw [decide_eq_false z] at q; cases q
   ·by_cases z : 0 ≤ x.snd
    ·rw [decide_eq_true z, cond_true, Option.some.injEq] at q; omega
    ·rw [decide_eq_false z] at q; cases q
  ·intro q
   left
   rw [decide_eq_true (show 0 ≤ x.fst by omega), cond_true, Option.some.injEq]
   omega
 ·rw [decide_eq_false hi, cond_false, Bool.or_eq_true, decide_eq_true_eq, decide_eq_true_eq, decide_eq_true_eq]
  show _ ↔ x.snd = ((i - p.firsts.length : Nat) : Int)
  constructor
  ·rintro (q | q)
   ·by_cases z : 0 ≤ x.fst
    ·rw [decide_eq_true z, cond_true, Option.some.injEq] at q; omega
    ·rw [decide_eq_false z] at q; cases q
   ·by_cases z : 0 ≤ x.snd
    ·rw [decide_eq_true z, cond_true, Option.some.injEq] at q; omega
    ·rw [decide_eq_false z] at q; cases q
  ·intro q
   right
   rw [decide_eq_true (show 0 ≤ x.snd by omega), cond_true, Option.some.injEq]
   omega
theorem umo {p : af} {last : Int} {x : am} (h : n8 p last x) : (d8 p.text x).length ≤ fa p.text x := by
 unfold d8 fa
 rw [← List.countP_eq_length_filter, ← List.countP_eq_length_filter]
 refine List.countP_mono_left fun q _ hq => ?_
 rw [Bool.or_eq_true, decide_eq_true_eq, decide_eq_true_eq] at hq
 rcases hq with hq | hq
 ·exact (my h.found hq).2
 ·exact (my h.well hq).2
theorem ufo {p : af} (h : fg p) (j : Nat) : 0 ≤ dg p j := by
 unfold dg rp
 cases hx : p.pages[j]? with
 | none => exact Int.le_refl _
 | some x =>
  have := umo (pageB_true.1 (h.page j x hx))
  show 0 ≤ pu p.text x
  unfold pu
  omega
end Go.AB
namespace Go.AB
open Go Go.RowKit
open Go.AB.Enc (cells)
/-- the numbers of a set -/
def wt (n s : Nat) : List Nat := (List.range n).filter fun i => s.testBit i
def et (n s : Nat) : List Int := (wt n s).map fun i : Nat => (i : Int)
theorem udv (n s : Nat) : et (n + 1) s = et n s ++ (bif s.testBit n then [(n : Int)] else []) := by
 unfold et wt
 rw [List.range_succ, List.filter_append, List.map_append]
 cases h : s.testBit n <;> simp [h]
theorem uc (n s : Nat) : (et n s).length ≤ n := by
 unfold et wt
 rw [List.length_map]
 have := List.length_filter_le (fun i => s.testBit i) (List.range n)
 rwa [List.length_range] at this
theorem membersL_mem {n s : Nat} {x : Int} : x ∈ et n s ↔ ∃ i : Nat, x = (i : Int) ∧ i < n ∧ s.testBit i = true := by
 unfold et wt
 simp only [List.mem_map, List.mem_filter, List.mem_range]
 exact ⟨fun ⟨i, ⟨h1, h2⟩, h3⟩ => ⟨i, h3.symm, h1, h2⟩, fun ⟨i, h3, h1, h2⟩ => ⟨i, ⟨h1, h2⟩, h3.symm⟩⟩
/-- the order of lists: shorter ones first, then by their numbers -/
def iy (a b : List Int) : Bool := decide (a.length < b.length) || (decide (a.length = b.length) && decide (ez a b < 0))
theorem uf1 {a b : List Int} : iy a b = true ↔ a.length < b.length ∨ (a.length = b.length ∧ ltW a b) := by
 unfold iy
 rw [Bool.or_eq_true, Bool.and_eq_true, decide_eq_true_eq, decide_eq_true_eq, decide_eq_true_eq]
 constructor
 ·rintro (h | ⟨h1, h2⟩)
  ·exact .inl h
  ·exact .inr ⟨h1, (n4 h1).1 h2⟩
 ·rintro (h | ⟨h1, h2⟩)
  ·exact .inl h
  ·exact .inr ⟨h1, (n4 h1).2 h2⟩
theorem uf2 (a : List Int) : iy a a = false := by
 rw [← Bool.not_eq_true, uf1]
 rintro (h | ⟨_, h⟩)
 ·omega
 ·exact ph a h
theorem uob {a b c : List Int} (h : iy a b = true) (k : iy b c = true) : iy a c = true := by
 rw [uf1] at *
 rcases h with h | ⟨h1, h2⟩
 ·rcases k with k | ⟨k1, _⟩
  ·exact .inl (by omega)
  ·exact .inl (by omega)
 ·rcases k with k | ⟨k1, k2⟩
  ·exact .inl (by omega)
  ·exact .inr ⟨by omega, rz h2 k2⟩
/-- what is found among the first sets -/
def e8 (so : Nat → Bool) (n : Nat) : Nat → Option (List Int)
 | 0 => none
 | k + 1 => match e8 so n k with
  | none => bif so k then some (et n k) else none
  | some b => bif so k && iy (et n k) b then some (et n k) else some b
def m9 (so : Nat → Bool) (n : Nat) : List Int := (e8 so n (2 ^ n)).getD []
structure upc (so : Nat → Bool) (n k : Nat) (b : List Int) : Prop where
 get : ∃ s, s < k ∧ so s = true ∧ b = et n s
 min : ∀ s, s < k → so s = true → iy (et n s) b = false
theorem xo (so : Nat → Bool) (n : Nat) : ∀ k, (e8 so n k = none ∧ ∀ s, s < k → so s = false) ∨ ∃ b, e8 so n k = some b ∧ upc so n k b
 | 0 => .inl ⟨rfl, fun s h => absurd h (Nat.not_lt_zero _)⟩
 | k + 1 => by
  rcases xo so n k with ⟨h1, h2⟩ | ⟨b, h1, h2⟩
  ·simp only [e8, h1]
   cases hs : so k
   ·exact .inl ⟨rfl, fun s h => by
     by_cases e : s = k
     ·subst e; exact hs
     ·exact h2 s (by omega)⟩
   ·exact .inr ⟨_, rfl, ⟨k, by omega, hs, rfl⟩, fun s h hso => by
     by_cases e : s = k
     ·subst e; exact uf2 _
     ·rw [h2 s (by omega)] at hso; cases hso⟩
  ·simp only [e8, h1]
   right
   cases hs : so k && iy (et n k) b
   ·refine ⟨b, rfl, ?_, fun s h hso => ?_⟩
    ·obtain ⟨s, q1, q2, q3⟩ := h2.get
     exact ⟨s, by omega, q2, q3⟩
    ·by_cases e : s = k
     ·subst e
      rw [hso, Bool.true_and] at hs
      exact hs
     ·exact h2.min s (by omega) hso
   ·rw [Bool.and_eq_true] at hs
    refine ⟨_, rfl, ⟨k, by omega, hs.1, rfl⟩, fun s h hso => ?_⟩
    by_cases e : s = k
    ·subst e; exact uf2 _
    ·rw [← Bool.not_eq_true]
     intro hb
     have := uob hb hs.2
     rw [h2.min s (by omega) hso] at this
     cases this
theorem uay (so : Nat → Bool) (n : Nat) : (m9 so n).length ≤ n := by
 unfold m9
 rcases xo so n (2 ^ n) with ⟨h, _⟩ | ⟨b, h, k⟩
 ·rw [h]; exact Nat.zero_le _
 ·rw [h]
  obtain ⟨s, _, _, rfl⟩ := k.get
  exact uc n s
theorem ufz {so : Nat → Bool} {n k : Nat} (h : e8 so n k = none) : e8 so n (k + 1) = bif so k then some (et n k) else none := by simp only [e8, h]
theorem uax {so : Nat → Bool} {n k : Nat} {b : List Int} (h : e8 so n k = some b) : e8 so n (k + 1) = bif so k && iy (et n k) b then some (et n k) else some b := by simp only [e8, h]
/-! ### Lists of numbers that are looked up -/
def co (n : Nat) (R : Nat → Int) : List Int := (List.range n).map R
theorem jq (n : Nat) (R : Nat → Int) : (co n R).length = n := by simp [co]
theorem ni {n i : Nat} (R : Nat → Int) (h : i < n) : (co n R)[i]? = some (R i) := by simp [co, h]
theorem yi (n : Nat) (R : Nat → Int) : co (n + 1) R = co n R ++ [R n] := by
 unfold co
 rw [List.range_succ, List.map_append]; rfl
theorem yj {n i : Nat} (R : Nat → Int) (v : Int) (h : i < n) : (co n R).set i v = co n fun k => bif decide (k = i) then v else R k := by
 apply List.ext_getElem?
 intro k
 rw [List.getElem?_set, jq]
 by_cases hk : k < n
 ·rw [ni (fun k => bif decide (k = i) then v else R k) hk, ni R hk]
  by_cases e : i = k
  ·subst e; rw [if_pos rfl, if_pos h, decide_eq_true rfl]; rfl
  ·rw [if_neg e, decide_eq_false (Ne.symm e)]; rfl
 ·rw [List.getElem?_eq_none (by rw [jq]; omega)]
  rw [if_neg (by omega), List.getElem?_eq_none (by rw [jq]; omega)]
end Go.AB
namespace Go.AB
open Go Go.RowKit
open Go.AB.Enc (cells)
open Go.PB (ar ai PlaceD az bf ba bj am af ci bi)
/-! ### All places are in order -/
theorem uol (t : ai) : (gh t).Pairwise fun a b => ez (cw a) (cw b) < 0 := by
 unfold gh
 rw [List.pairwise_map, List.pairwise_iff_getElem]
 intro i j hi hj hij
 have h1 := List.getElem?_eq_getElem hi
 have h2 := List.getElem?_eq_getElem hj
 have h := uk1 (ugi h1).1 (ugi h2).1
 rw [zo h1 rfl, zo h2 rfl] at h
 rw [n4 (by rfl), ← h]
 omega
theorem allQ_mem {t : ai} {q : PlaceD} : q ∈ gh t ↔ fp t q = true := allP_mem
theorem xh {t : ai} (f : PlaceD → Bool) : ((gh t).filter f).Pairwise fun a b => ez (cw a) (cw b) < 0 := (uol t).filter _
/-- places in order, of a text, are those of all places that are among them -/
theorem uid {t : ai} {l : List PlaceD} (h : l.Pairwise fun a b => ez (cw a) (cw b) < 0) (hp : ∀ q ∈ l, fp t q = true) : l = (gh t).filter fun q => decide (q ∈ l) :=
 vr h (xh _) fun q => by
  rw [List.mem_filter, decide_eq_true_eq, allQ_mem]
  exact ⟨fun h => ⟨hp q h, h⟩, fun h => h.2⟩
theorem umv {t : ai} {x : am} {r : Int} {l : List PlaceD} (h : gz t x r l = true) : l = (gh t).filter fun q => decide (q ∈ l) := uid (xg h) fun q hq => (my h hq).1
theorem pp {t : ai} {x : am} {r : Int} {l : List PlaceD} (h : gz t x r l = true) : l.length ≤ (gh t).length := by
 rw [umv h]
 exact List.length_filter_le _ _
theorem xc (t : ai) (x : am) : (d8 t x).length ≤ (gh t).length := List.length_filter_le _ _
theorem ufv (t : ai) (x : am) : (da t x).length ≤ (gh t).length := List.length_filter_le _ _
theorem x5 (t : ai) (x : am) : fa t x ≤ (gh t).length := List.length_filter_le _ _
/-! ### How great numbers are -/
theorem yk {g : am → Nat} {m : Nat} : ∀ {l : List am}, (∀ x ∈ l, g x ≤ m) → dt l g ≤ l.length * m
 | [], _ => by simp [dt]
 | x :: l, h => by
  have h1 := yk (l := l) fun y hy => h y (List.mem_cons_of_mem _ hy)
  have h2 := h x (List.mem_cons_self ..)
  simp only [dt, List.map_cons, List.sum_cons, List.length_cons] at h1 ⊢
  rw [Nat.succ_mul]
  omega
theorem uc2 {p : af} (h : fg p) (b : Bool) (i : Int) : dt p.pages (gg b i) ≤ 4800 := by
 have hq := qz h.text
 have h1 := yk (l := p.pages) (g := gg b i) (m := 600) fun x hx => by
  obtain ⟨j, hj⟩ := List.getElem?_of_mem hx
  have hp := pageB_true.1 (h.page j x hj)
  unfold gg
  cases decide (er b x = i)
  ·exact Nat.zero_le _
  ·cases b
   ·have := pp hp.found
    show x.found.length ≤ 600
    omega
   ·have := pp hp.well
    show x.well.length ≤ 600
    omega
 have := h.np
 have h2 : p.pages.length * 600 ≤ 8 * 600 := Nat.mul_le_mul_right _ this
 omega
theorem uch {p : af} (h : fg p) (b : Bool) (i : Int) : dt p.pages (iu p.text b i) ≤ 4800 := by
 have hq := qz h.text
 have h1 := yk (l := p.pages) (g := iu p.text b i) (m := 600) fun x hx => by
  have := xc p.text x
  unfold iu
  cases decide (er b x = i)
  ·exact Nat.zero_le _
  ·show (d8 p.text x).length ≤ 600
   omega
 have := h.np
 have h2 : p.pages.length * 600 ≤ 8 * 600 := Nat.mul_le_mul_right _ this
 omega
theorem udq {p : af} (h : fg p) (b : Bool) (i : Nat) : 0 ≤ kf p b i ∧ kf p b i ≤ 90 := by
 unfold kf
 cases hr : (du p b)[i]? with
 | none => exact ⟨Int.le_refl _, by show (0 : Int) ≤ 90; omega⟩
 | some r =>
  have hm := List.mem_of_getElem? hr
  have : gj r = true := h.rd r (by
   rw [List.mem_append]
   cases b
   ·exact .inl hm
   ·exact .inr hm)
  unfold gj at this
  rw [Bool.and_eq_true, inB_true, inB_true] at this
  exact this.2
theorem ufq {p : af} (h : fg p) (b : Bool) (i : Nat) : 0 ≤ lk p b i ∧ lk p b i ≤ 48000 := by
 have h1 := uc2 h b i
 have h2 := udq h b i
 unfold lk
 have h3 : (0 : Int) < 100 - kf p b i := by omega
 refine ⟨Int.ediv_nonneg (by omega) (by omega), ?_⟩
 have h4 : 100 * ((dt p.pages (gg b i) : Nat) : Int) / (100 - kf p b i) ≤ 100 * ((dt p.pages (gg b i) : Nat) : Int) / 10 := by
  refine Int.le_ediv_of_mul_le (by omega) ?_
  have h5 := Int.ediv_mul_le (100 * ((dt p.pages (gg b i) : Nat) : Int)) (show (100 - kf p b i) ≠ 0 by omega)
  have h6 : 0 ≤ 100 * ((dt p.pages (gg b i) : Nat) : Int) / (100 - kf p b i) := Int.ediv_nonneg (by omega) (by omega)
  have h7 : 100 * ((dt p.pages (gg b i) : Nat) : Int) / (100 - kf p b i) * 10 ≤ 100 * ((dt p.pages (gg b i) : Nat) : Int) / (100 - kf p b i) * (100 - kf p b i) := Int.mul_le_mul_of_nonneg_left (by omega) h6
  omega
 omega
theorem ud5 {p : af} (h : fg p) (b : Bool) (i : Nat) : -4800 ≤ mw p b i ∧ mw p b i ≤ 48000 := by
 have h1 := ufq h b i
 have h2 := uch h b i
 unfold mw
 omega
theorem ul1 {p : af} (h : fg p) (i : Nat) : -4800 ≤ ck p i ∧ ck p i ≤ 48000 := by
 unfold ck
 cases decide (i < p.firsts.length)
 ·exact ud5 h _ _
 ·exact ud5 h _ _
theorem unx {p : af} (h : fg p) (j : Nat) : 0 ≤ dg p j ∧ dg p j ≤ 600 := by
 refine ⟨ufo h j, ?_⟩
 have hq := qz h.text
 unfold dg rp
 cases hx : p.pages[j]? with
 | none => show (0 : Int) ≤ 600; omega
 | some x =>
  have := x5 p.text x
  show pu p.text x ≤ 600
  unfold pu
  omega
/-! ### What is told -/
section
def d9 (p : af) (n : Int) : Int := bif decide (cc p = 0) then (bif inB n 0 ((p.pages.length : Int) - 1) then 0 else 2) else cc p
def eo (p : af) (e : Int) : Int := bif decide (e = 0) then (bif jc p then 0 else 8) else e
def kx (p : af) (b : Bool) (n : Int) : Int := bif decide (cc p = 0) then (bif inB n 0 (((du p b).length : Int) - 1) then 0 else 2) else cc p
def gw (p : af) (m : Int) : Int := bif decide (cc p = 0) then (bif decide (m < 0) then 2 else bif jc p then 0 else 8) else cc p
def atE {α : Type} (e : Int) (d v : α) : α := bif decide (e = 0) then v else d
def mq (p : af) (n : Int) : am := (p.pages[n.toNat]?).getD ⟨0, 0, 0, 0, [], []⟩
def qb (p : af) (n : Int) : Int := atE (d9 p n) 0 (fa p.text (mq p n) : Int)
def po (p : af) (n : Int) : List PlaceD := atE (d9 p n) [] (d8 p.text (mq p n))
def px (p : af) (n : Int) : List PlaceD := atE (d9 p n) [] (da p.text (mq p n))
def o5 (p : af) (b : Bool) (n : Int) : Int := atE (kx p b n) 0 (lk p b n.toNat)
def kg (p : af) (n : Int) : Int := bif decide (d9 p n = 0) then (bif decide ((da p.text (mq p n)).length = 0) then 6 else 0) else d9 p n
def r9 (x : am) (k : Nat) : bi := ⟨((x.found.length * x.well.length / k : Nat) : Int), (((x.found.length * x.well.length + k - 1) / k : Nat) : Int)⟩
def lh (p : af) (n : Int) : bi := atE (kg p n) ⟨0, 0⟩ (r9 (mq p n) (da p.text (mq p n)).length)
def mf (p : af) (n : Int) : bi := atE (eo p (d9 p n)) ⟨0, 0⟩ ⟨0, (bn p).alone (ck p) (dg p) n.toNat⟩
def yd (p : af) : Int := (bn p).most (ck p) (dg p)
def mn (p : af) : bi := atE (eo p (cc p)) ⟨0, 0⟩ ⟨0, yd p⟩
noncomputable def jo (p : af) : Nat → Int := (bn p).worst (ck p) (dg p)
noncomputable def qa (p : af) : List Int := atE (eo p (cc p)) [] (co p.pages.length (jo p))
def rg (p : af) (s : Nat) : Bool := decide ((bn p).f (ck p) (dg p) (fun i => s.testBit i) = yd p)
def g9 (p : af) : List Int := m9 (rg p) (cb p)
def oe (p : af) (l : List Int) : List Int := l.filter fun k => decide (k < (p.firsts.length : Int))
def nh (p : af) (l : List Int) : List Int := (l.filter fun k => !decide (k < (p.firsts.length : Int))).map fun k => k - (p.firsts.length : Int)
def lm (C : Nat → Int) (l : List Int) (j : Nat) : Int := bif decide ((j : Int) ∈ l) then 0 else C j
def u9 (p : af) (l : List Int) : Int := (bn p).most (ck p) (lm (dg p) l)
def n5 (p : af) (m : Int) (s : Nat) : Bool := decide (u9 p (et p.pages.length s) ≤ m)
def i0 (p : af) (m : Int) : List Int := atE (gw p m) [] (m9 (n5 p m) p.pages.length)
end
theorem ugs (C : Nat → Int) : lm C [] = C := by funext j; simp [lm]
theorem ugr (C : Nat → Int) (l : List Int) (i : Nat) : lm C (l ++ [(i : Int)]) = ed (lm C l) i := by
 funext j
 unfold lm ed
 by_cases e : j = i
 ·subst e; simp
 ·rw [decide_eq_false e, cond_false]
  congr 1
  rw [decide_eq_decide, List.mem_append, List.mem_singleton]
  constructor
  ·rintro (h | h)
   ·exact h
   ·omega
  ·exact .inl
theorem ulw (N : Net) (R : Nat → Int) (j : Nat) : N.lessR R j 0 = R := by
 funext i
 unfold Net.lessR
 cases N.by j i <;> simp
theorem uhr {p : af} (h : jc p = true) : ∀ i, i < (bn p).nr → 0 ≤ ck p i := fun i hi => by
 have := List.all_eq_true.1 h i (List.mem_range.2 hi)
 exact of_decide_eq_true this
end Go.AB
namespace Go.AB
open Go Go.RowKit
open Go.AB.Enc (cells)
open Go.PB (ar ai PlaceD az bf ba bj am af ci bi)
theorem yn : ∀ (a b : Nat) (g : Nat → Int), sm (a + b) g = sm a g + sm b fun i => g (a + i)
 | a, 0, g => by simp [sm]
 | a, b + 1, g => by
  have := yn a b g
  rw [show a + (b + 1) = (a + b) + 1 from rfl]
  simp only [sm]
  omega
/-- the same sets of readers, with another order of readers -/
def TurnS (a b : Nat) (S S' : Nat → Bool) : Prop := (∀ i, i < b → S' i = S (a + i)) ∧ ∀ i, i < a → S' (b + i) = S i
theorem ubj (a b : Nat) (S : Nat → Bool) : ∃ S', TurnS a b S S' := ⟨fun k => bif decide (k < b) then S (a + k) else S (k - b), fun i hi => by simp [hi], fun i hi => by
 show (bif decide (b + i < b) then S (a + (b + i)) else S (b + i - b)) = S i
 rw [decide_eq_false (by omega), cond_false, Nat.add_sub_cancel_left]⟩
theorem TurnS.symm {a b : Nat} {S S' : Nat → Bool} (h : TurnS a b S S') : TurnS b a S' S := ⟨fun i hi => (h.2 i hi).symm, fun i hi => (h.1 i hi).symm⟩
theorem Net.f_turn {N N' : Net} {R R' C : Nat → Int} {a b : Nat} (hr : N.nr = a + b) (hr' : N'.nr = b + a) (hp : N'.np = N.np) (h1 : ∀ i, i < b → R' i = R (a + i)) (h2 : ∀ i, i < a → R' (b + i) = R i) {S S' : Nat → Bool} (hS : TurnS a b S S') (hh : ∀ j, j < N.np → N'.hit S' j = N.hit S j) : N'.f R' C S' = N.f R C S := by
 have e1 : sm (b + a) (fun i => bif S' i then R' i else 0) = sm (a + b) (fun i => bif S i then R i else 0) := by
  rw [yn, yn]
  have q1 : sm b (fun i => bif S' i then R' i else 0) = sm b (fun i => bif S (a + i) then R (a + i) else 0) := mc fun i hi => by rw [hS.1 i hi, h1 i hi]
  have q2 : sm a (fun i => bif S' (b + i) then R' (b + i) else 0) = sm a (fun i => bif S i then R i else 0) := mc fun i hi => by rw [hS.2 i hi, h2 i hi]
  rw [q1, q2]; omega
 have e2 : sm N'.np (fun j => bif N'.hit S' j then 0 else C j) = sm N.np (fun j => bif N.hit S j then 0 else C j) := by
  rw [hp]
  exact mc fun j hj => by rw [hh j hj]
 unfold Net.f
 rw [hr, hr', e1, e2]
theorem Net.most_turn {N N' : Net} (hN : N.Ok) (hN' : N'.Ok) {R R' C : Nat → Int} {a b : Nat} (hr : N.nr = a + b) (hr' : N'.nr = b + a) (hp : N'.np = N.np) (h1 : ∀ i, i < b → R' i = R (a + i)) (h2 : ∀ i, i < a → R' (b + i) = R i) (hh : ∀ S S', TurnS a b S S' → ∀ j, j < N.np → N'.hit S' j = N.hit S j) : N'.most R' C = N.most R C := by
 refine Int.le_antisymm ?_ ?_
 ·obtain ⟨S, hS⟩ := N.most_get R C
  obtain ⟨S', hT⟩ := ubj a b S
  rw [hS, ← Net.f_turn hr hr' hp h1 h2 hT (hh S S' hT)]
  exact Net.most_le hN' S'
 ·obtain ⟨S', hS'⟩ := N'.most_get R' C
  obtain ⟨S, hT⟩ := ubj b a S'
  rw [hS', Net.f_turn hr hr' hp h1 h2 hT.symm (hh S S' hT.symm)]
  exact Net.most_le hN S
def em (x : am) : am := ⟨x.fr, x.to, x.snd, x.fst, x.well, x.found⟩
/-- proofs whose first and second readers have changed their places -/
def cv (p : af) : af := ⟨p.text, p.seconds, p.firsts, p.pages.map em⟩
theorem uam (t : ai) (x : am) : d8 t (em x) = d8 t x := by
 unfold d8 em
 exact List.filter_congr fun q _ => Bool.or_comm _ _
theorem ufu (t : ai) (x : am) : da t (em x) = da t x := by
 unfold da em
 exact List.filter_congr fun q _ => Bool.and_comm _ _
theorem ug4 (t : ai) (x : am) : fa t (em x) = fa t x := rfl
theorem unw (t : ai) (x : am) : pu t (em x) = pu t x := by unfold pu; rw [uam, ug4]
theorem ubp (l : List am) (f : am → am) (g : am → Nat) : dt (l.map f) g = dt l fun x => g (f x) := by unfold dt; rw [List.map_map]; rfl
theorem ud4 (p : af) (b : Bool) (i : Nat) : mw (cv p) b i = mw p (!b) i ∧ lk (cv p) b i = lk p (!b) i := by
 have e1 : dt (cv p).pages (gg b i) = dt p.pages (gg (!b) i) := by
  show dt (p.pages.map em) _ = _
  rw [ubp]
  cases b <;> rfl
 have e2 : dt (cv p).pages (iu (cv p).text b i) = dt p.pages (iu p.text (!b) i) := by
  show dt (p.pages.map em) _ = _
  rw [ubp]
  congr 1
  funext x
  show (bif decide (er b (em x) = (i : Int)) then (d8 p.text (em x)).length else 0) = _
  rw [uam]
  cases b <;> rfl
 have e3 : kf (cv p) b i = kf p (!b) i := by cases b <;> rfl
 have e4 : lk (cv p) b i = lk p (!b) i := by unfold lk; rw [e1, e3]
 exact ⟨by unfold mw; rw [e4, e2], e4⟩
theorem uj7 {p : af} {last : Int} {x : am} (h : kb p last x = true) : kb (cv p) last (em x) = true := by
 have h := pageB_true.1 h
 exact pageB_true.2 ⟨h.fr, h.to, h.lt, h.snd, h.fst, h.well, h.found⟩
theorem ul8 (l : List am) : ∀ i, gq (l.map em) i = gq l i
 | 0 => rfl
 | i + 1 => by
  show (match (l.map em)[i]? with | some x => x.to | none => -1) = (match l[i]? with | some x => x.to | none => -1)
  rw [List.getElem?_map]
  cases l[i]? <;> rfl
theorem ujw {p : af} (h : fh p = true) : fh (cv p) = true := by
 unfold fh jk at h ⊢
 simp only [Bool.and_eq_true, decide_eq_true_eq, List.all_eq_true] at h ⊢
 obtain ⟨⟨⟨⟨⟨h1, h2⟩, h3⟩, h4⟩, h5⟩, h6⟩ := h
 refine ⟨⟨⟨⟨⟨h2, h1⟩, fun r hr => h3 r ?_⟩, ?_⟩, ?_⟩, ?_⟩
 ·simp only [cv, List.mem_append] at hr ⊢
  exact hr.symm
 ·have hp : ((p.seconds ++ p.firsts).map (·.id)).Perm ((p.firsts ++ p.seconds).map (·.id)) := List.Perm.map _ List.perm_append_comm
  exact hp.nodup_iff.2 h4
 ·show (p.pages.map em).length ≤ 8
  rw [List.length_map]; exact h5
 ·show ((List.range (p.pages.map em).length).all (qg (cv p))) = true
  rw [List.length_map, List.all_eq_true]
  intro i hi
  have := List.all_eq_true.1 h6 i hi
  unfold qg at this ⊢
  show (match (p.pages.map em)[i]? with | none => true | some x => kb (cv p) (gq (p.pages.map em) i) x) = true
  rw [List.getElem?_map, ul8]
  cases hx : p.pages[i]? with
  | none => rfl
  | some x =>
   rw [hx] at this
   exact uj7 this
theorem qr {p : af} (h : cc p = 0) : cc (cv p) = 0 := by
 obtain ⟨h1, h2⟩ := j9 h
 unfold cc
 rw [show (cv p).text = p.text from rfl, h1.text, ujw h2]; rfl
theorem qm (p : af) : (∀ i, i < p.seconds.length → ck (cv p) i = ck p (p.firsts.length + i)) ∧ ∀ i, i < p.firsts.length → ck (cv p) (p.seconds.length + i) = ck p i := by
 constructor
 ·intro i hi
  unfold ck
  rw [show (cv p).firsts.length = p.seconds.length from rfl, decide_eq_true hi, decide_eq_false (show ¬ p.firsts.length + i < p.firsts.length by omega), cond_true, cond_false, (ud4 p false i).1, Nat.add_sub_cancel_left]; rfl
 ·intro i hi
  unfold ck
  rw [show (cv p).firsts.length = p.seconds.length from rfl, decide_eq_true hi, decide_eq_false (show ¬ p.seconds.length + i < p.seconds.length by omega), cond_true, cond_false, (ud4 p true _).1, Nat.add_sub_cancel_left]; rfl
theorem umh {p : af} {j : Nat} {x : am} (hx : p.pages[j]? = some x) {S S' : Nat → Bool} (hok : fg p) (h : TurnS p.firsts.length p.seconds.length S S') : (bn (cv p)).hit S' j = (bn p).hit S j := by
 have hp := pageB_true.1 (hok.page j x hx)
 have h1 := hp.fst
 have h2 := hp.snd
 have hx' : (cv p).pages[j]? = some (em x) := by show (p.pages.map em)[j]? = _; rw [List.getElem?_map, hx]; rfl
 simp only [Net.hit, bn, hx, hx']
 rw [Bool.or_comm]
 show (ob S' (bif decide (0 ≤ x.fst) then some (p.seconds.length + x.fst.toNat) else none) || ob S' (bif decide (0 ≤ x.snd) then some x.snd.toNat else none)) = _
 congr 1
 ·by_cases q : 0 ≤ x.fst
  ·rw [decide_eq_true q]
   exact h.2 _ (by omega)
  ·rw [decide_eq_false q]; rfl
 ·by_cases q : 0 ≤ x.snd
  ·rw [decide_eq_true q]
   exact h.1 _ (by omega)
  ·rw [decide_eq_false q]; rfl
theorem udo {p : af} (h : cc p = 0) (C : Nat → Int) : (bn (cv p)).most (ck (cv p)) C = (bn p).most (ck p) C := by
 have h1 := (j9 h).1
 have h2 := (j9 (qr h)).1
 refine Net.most_turn (t7 h1) (t7 h2) (a := p.firsts.length) (b := p.seconds.length) rfl rfl (by show (p.pages.map em).length = _; rw [List.length_map]; rfl) (qm p).1 (qm p).2 fun S S' hS j hj => ?_
 exact umh (List.getElem?_eq_getElem hj) h1 hS
theorem uav (p : af) : dg (cv p) = dg p := by
 funext j
 unfold dg rp
 rw [show (cv p).pages = p.pages.map em from rfl, List.getElem?_map]
 cases p.pages[j]? with
 | none => rfl
 | some x => exact unw _ _
theorem yc (p : af) : jc (cv p) = jc p := by
 unfold jc
 have hn : cb (cv p) = p.seconds.length + p.firsts.length := rfl
 have hm : cb p = p.firsts.length + p.seconds.length := rfl
 rw [Bool.eq_iff_iff, List.all_eq_true, List.all_eq_true, hn, hm]
 simp only [List.mem_range, decide_eq_true_eq]
 constructor
 ·intro h i hi
  by_cases q : i < p.firsts.length
  ·have := h (p.seconds.length + i) (by omega)
   rwa [(qm p).2 i q] at this
  ·have := h (i - p.firsts.length) (by omega)
   rw [(qm p).1 _ (by omega), show p.firsts.length + (i - p.firsts.length) = i by omega] at this
   exact this
 ·intro h i hi
  by_cases q : i < p.seconds.length
  ·rw [(qm p).1 i q]; exact h _ (by omega)
  ·have e : i = p.seconds.length + (i - p.seconds.length) := by omega
   rw [e, (qm p).2 _ (by omega)]
   exact h _ (by omega)
/-! ### Readers who miss less -/
end Go.AB
namespace Go.AB
open Go Go.RowKit
open Go.AB.Enc (cells)
open Go.PB (ar ai PlaceD az bf ba bj am af ci bi)
end Go.AB
namespace Go.AB
open Go Go.RowKit
open Go.AB.Enc (cells)
open Go.PB (ar ai PlaceD az bf ba bj am af ci bi)
end Go.AB
namespace Go.AB
open Go Go.RowKit
open Go.AB.Enc (cells)
open Go.PB (ar ai PlaceD az bf ba bj am af ci bi)
end Go.AB
namespace Go.AB
open Go Go.RowKit
open Go.AB.Enc (cells)
open Go.PB (ar ai PlaceD az bf ba bj am af ci bi)
/-- as much as can be on a page, if nothing is lost by it -/
theorem Net.pick_alone {N : Net} {R C : Nat → Int} {j : Nat} (h0 : 0 ≤ N.alone R C j) (h : N.most R C ≤ N.alone R C j + N.most (N.lessR R j (N.alone R C j)) (ed C j)) : N.pick R C j = N.alone R C j :=
 Net.pick_eq ⟨h0, Int.le_refl _, h, fun m h1 h2 => by omega⟩
def nd : ByteArray := ⟨#[116, 104, 101]⟩
def jb : ByteArray := ⟨#[115, 101, 97]⟩
def xIs : ByteArray := ⟨#[105, 115]⟩
def ne : ByteArray := ⟨#[111, 108, 100]⟩
def sy : ByteArray := ⟨#[97, 110, 100]⟩
def exTx : ai := [⟨7, [[nd, jb, xIs, ne], [ne, nd, jb]]⟩, ⟨3, [[jb, sy, jb]]⟩]
def exPg : List am := [⟨0, 0, 0, 0, [⟨0, 0, 0⟩], [⟨0, 0, 0⟩, ⟨0, 0, 3⟩]⟩, ⟨1, 2, 0, -1, [⟨0, 1, 1⟩], []⟩]
def exPr : af := ⟨exTx, [⟨1, 50⟩, ⟨2, 0⟩], [⟨3, 60⟩], exPg⟩
theorem ve : eo exPr (cc exPr) = 0 := by decide +kernel
theorem xp_words : qb exPr 1 = 6 ∧ d9 exPr 1 = 0 ∧ qb exPr 0 = 4 ∧ d9 exPr 0 = 0 := ⟨by decide +kernel, by decide +kernel, by decide +kernel, by decide +kernel⟩
theorem xp_found : po exPr 0 = [⟨0, 0, 0⟩, ⟨0, 0, 3⟩] ∧ px exPr 0 = [⟨0, 0, 0⟩] := ⟨by decide +kernel, by decide +kernel⟩
theorem xp_guess : lh exPr 0 = ⟨2, 2⟩ ∧ kg exPr 0 = 0 := ⟨by decide +kernel, by decide +kernel⟩
theorem xp_remain : mf exPr 1 = ⟨0, 1⟩ ∧ eo exPr (d9 exPr 1) = 0 ∧ mf exPr 0 = ⟨0, 1⟩ ∧ eo exPr (d9 exPr 0) = 0 := ⟨by decide +kernel, by decide +kernel, by decide +kernel, by decide +kernel⟩
theorem ugu : mn exPr = ⟨0, 1⟩ := by decide +kernel
theorem xp_why : oe exPr (g9 exPr) = [0] ∧ nh exPr (g9 exPr) = [] := ⟨by decide +kernel, by decide +kernel⟩
theorem xp_bound : o5 exPr false 0 = 4 ∧ kx exPr false 0 = 0 ∧ o5 exPr false 1 = 0 ∧ kx exPr false 1 = 0 ∧ o5 exPr true 0 = 5 ∧ kx exPr true 0 = 0 := ⟨by decide +kernel, by decide +kernel, by decide +kernel, by decide +kernel, by decide +kernel, by decide +kernel⟩
theorem xp_chief : i0 exPr 0 = [0, 1] ∧ gw exPr 0 = 0 ∧ i0 exPr 1 = [] ∧ gw exPr 1 = 0 := ⟨by decide +kernel, by decide +kernel, by decide +kernel, by decide +kernel⟩
theorem ugt : qa exPr = [1, 0] := by
 have h0 : jo exPr 0 = 1 := by
  have := Net.pick_alone (N := bn exPr) (R := ck exPr) (C := dg exPr) (j := 0) (by decide +kernel) (by decide +kernel)
  exact this.trans (by decide +kernel)
 have h1 : jo exPr 1 = 0 := by
  have e : jo exPr 1 = (bn exPr).pick ((bn exPr).lessR (ck exPr) 0 1) (ed (dg exPr) 0) 1 := by
   show (bn exPr).pick ((bn exPr).lessR (ck exPr) 0 (jo exPr 0)) (ed (dg exPr) 0) 1 = _
   rw [h0]
  have := Net.pick_alone (N := bn exPr) (R := (bn exPr).lessR (ck exPr) 0 1) (C := ed (dg exPr) 0) (j := 1) (by decide +kernel) (by decide +kernel)
  exact e.trans (this.trans (by decide +kernel))
 unfold qa
 rw [ve]
 show [jo exPr 0, jo exPr 1] = _
 rw [h0, h1]
end Go.AB
namespace Go.AB
open Go Go.RowKit
open Go.AB.Enc (cells)
open Go.PB (ar ai PlaceD az bf ba bj am af ci bi)
/-- who is found by one reader alone, so far -/
def f8 (F W : List PlaceD) (q : PlaceD) : Bool := decide (q ∈ F) != decide (q ∈ W)
theorem ukx (F : List PlaceD) (q : PlaceD) : f8 F [] q = decide (q ∈ F) := by simp [f8]
theorem ym {l : List PlaceD} (h : l.Pairwise fun a b => ez (cw a) (cw b) < 0) : l.Nodup := h.imp fun {a b} hab e => by
 rw [n4 (by rfl)] at hab
 subst e
 exact ph _ hab
theorem uh0 {l : List PlaceD} (h : l.Nodup) {k : Nat} {q : PlaceD} (hq : l[k]? = some q) : q ∉ l.take k := fun hm => by
 obtain ⟨i, hi⟩ := List.getElem?_of_mem hm
 have hik : i < k := by have := (List.getElem?_eq_some_iff.1 hi).1; rw [List.length_take] at this; omega
 rw [List.getElem?_take_of_lt hik] at hi
 obtain ⟨h1, h2⟩ := List.getElem?_eq_some_iff.1 hi
 obtain ⟨h3, h4⟩ := List.getElem?_eq_some_iff.1 hq
 have := (List.pairwise_iff_getElem.1 h) i k h1 h3 hik
 exact this (h2.trans h4.symm)
/-- the place at hand is in the map if the first reader found it -/
theorem wc {F W : List PlaceD} (hW : W.Nodup) {k : Nat} {q : PlaceD} (hq : W[k]? = some q) : f8 F (W.take k) q = decide (q ∈ F) := by
 unfold f8
 rw [decide_eq_false (uh0 hW hq)]
 cases decide (q ∈ F) <;> rfl
theorem uc9 {F W : List PlaceD} (hW : W.Nodup) {k : Nat} {q : PlaceD} (hq : W[k]? = some q) (x : PlaceD) : f8 F (W.take (k + 1)) x = bif decide (x = q) then !decide (q ∈ F) else f8 F (W.take k) x := by
 have hm : decide (x ∈ W.take (k + 1)) = (decide (x ∈ W.take k) || decide (x = q)) := by
  rw [List.take_add_one, hq, Option.toList_some, Bool.eq_iff_iff]
  simp
 by_cases e : x = q
 ·subst e
  unfold f8
  rw [hm, decide_eq_true (rfl : x = x), Bool.or_true, cond_true]
  cases decide (x ∈ F) <;> rfl
 ·unfold f8
  rw [hm, decide_eq_false e, Bool.or_false, cond_false]
/-- what both found so far -/
def m8 (F W : List PlaceD) (k : Nat) : List PlaceD := (W.take k).filter fun q => decide (q ∈ F)
theorem ufs {F W : List PlaceD} {k : Nat} {q : PlaceD} (hq : W[k]? = some q) : m8 F W (k + 1) = m8 F W k ++ bif decide (q ∈ F) then [q] else [] := by
 unfold m8
 rw [List.take_add_one, hq, Option.toList_some, List.filter_append]
 cases h : decide (q ∈ F) <;> simp [h]
theorem uft (F W : List PlaceD) (k : Nat) : (m8 F W k).length ≤ W.length := by
 unfold m8
 have := List.length_filter_le (fun q => decide (q ∈ F)) (W.take k)
 rw [List.length_take] at this
 omega
theorem un2 {p : af} {last : Int} {x : am} (h : n8 p last x) : m8 x.found x.well x.well.length = da p.text x := by
 have hs : (m8 x.found x.well x.well.length).Pairwise fun a b => ez (cw a) (cw b) < 0 := by
  unfold m8
  rw [List.take_length]
  exact (xg h.well).filter _
 refine vr hs (xh _) fun q => ?_
 unfold m8
 rw [List.take_length, List.mem_filter, decide_eq_true_eq]
 show _ ↔ q ∈ (gh p.text).filter _
 rw [List.mem_filter, Bool.and_eq_true, decide_eq_true_eq, decide_eq_true_eq, allQ_mem]
 exact ⟨fun ⟨h1, h2⟩ => ⟨(my h.well h1).1, h2, h1⟩, fun ⟨_, h2, h3⟩ => ⟨h3, h2⟩⟩
/-- both's places, and those of one alone in any order, put in order: all that are found -/
theorem ugf {p : af} {last : Int} {x : am} (h : n8 p last x) {ks s : List PlaceD} (hn : ks.Nodup) (hk : ∀ q, q ∈ ks ↔ f8 x.found x.well q = true) (hp : s.Perm (da p.text x ++ ks)) (hs : s.Pairwise fun a b => ¬ ez (cw b) (cw a) < 0) : s = d8 p.text x := by
 have hmb : ∀ q, q ∈ da p.text x ↔ q ∈ x.found ∧ q ∈ x.well := fun q => by
  show q ∈ (gh p.text).filter _ ↔ _
  rw [List.mem_filter, Bool.and_eq_true, decide_eq_true_eq, decide_eq_true_eq, allQ_mem]
  exact ⟨fun h => h.2, fun h2 => ⟨(my h.well h2.2).1, h2⟩⟩
 have hko : ∀ q, f8 x.found x.well q = true ↔ (q ∈ x.found ∧ q ∉ x.well) ∨ (q ∉ x.found ∧ q ∈ x.well) := fun q => by
  unfold f8
  by_cases h1 : q ∈ x.found <;> by_cases h2 : q ∈ x.well <;> simp [h1, h2]
 have hnd : (da p.text x ++ ks).Nodup := by
  rw [List.nodup_append]
  refine ⟨ym (xh _), hn, fun a ha b hb e => ?_⟩
  subst e
  have h1 := (hmb a).1 ha
  rcases (hko a).1 ((hk a).1 hb) with h2 | h2
  ·exact h2.2 h1.2
  ·exact h2.1 h1.1
 have hsn : s.Nodup := hp.nodup_iff.2 hnd
 have hs2 : s.Pairwise fun a b => ez (cw a) (cw b) < 0 := by
  have := List.Pairwise.and hs hsn
  refine this.imp fun {a b} hab => ?_
  rw [n4 (by rfl)] at hab ⊢
  refine Classical.byContradiction fun hno => hab.2 ?_
  exact umc (uaa (by rfl) hno hab.1)
 refine vr hs2 (xh _) fun q => ?_
 rw [hp.mem_iff, List.mem_append, hmb, hk, hko]
 show _ ↔ q ∈ (gh p.text).filter _
 rw [List.mem_filter, Bool.or_eq_true, decide_eq_true_eq, decide_eq_true_eq, allQ_mem]
 constructor
 ·rintro (⟨h1, h2⟩ | ⟨h1, _⟩ | ⟨_, h2⟩)
  ·exact ⟨(my h.found h1).1, .inl h1⟩
  ·exact ⟨(my h.found h1).1, .inl h1⟩
  ·exact ⟨(my h.well h2).1, .inr h2⟩
 ·rintro ⟨_, h1 | h1⟩
  ·by_cases h2 : q ∈ x.well
   ·exact .inl ⟨h1, h2⟩
   ·exact .inr (.inl ⟨h1, h2⟩)
  ·by_cases h2 : q ∈ x.found
   ·exact .inl ⟨h2, h1⟩
   ·exact .inr (.inr ⟨h2, h1⟩)
/-! ### The words of a page, line by line -/
def jp (t : ai) (x : am) (l : List PlaceD) : Nat := (l.filter (gx t x)).length
theorem ube (t : ai) (x : am) {k n : Nat} {c : ar} {l : List ByteArray} (hn : c.lines[n]? = some l) : jp t x (ip t k c.lines (n + 1)) = jp t x (ip t k c.lines n) + bif inB ((fq t k : Int) + (n : Int)) x.fr x.to then l.length else 0 := by
 have e : ip t k c.lines (n + 1) = ip t k c.lines n ++ (lf k n l).map (·.1) := by
  unfold ip
  rw [ufm k hn, List.map_append, List.append_assoc]
 unfold jp
 rw [e, List.filter_append, List.length_append]
 congr 1
 have hall : ∀ q ∈ (lf k n l).map (·.1), gx t x q = inB ((fq t k : Int) + (n : Int)) x.fr x.to := fun q hq => by
  obtain ⟨y, hy, rfl⟩ := List.mem_map.1 hq
  obtain ⟨w, hw, rfl⟩ := List.mem_mapIdx.1 hy
  show inB (ql t ⟨(k : Int), (n : Int), (w : Int)⟩) x.fr x.to = _
  unfold ql
  dsimp only
  rw [Int.toNat_natCast, Int.add_comm]
 have hlen : ((lf k n l).map (·.1)).length = l.length := by rw [List.length_map]; unfold lf; rw [List.length_mapIdx]
 cases hb : inB ((fq t k : Int) + (n : Int)) x.fr x.to
 ·rw [List.filter_eq_nil_iff.2 fun q hq => by rw [hall q hq, hb]; simp]; rfl
 ·rw [List.filter_eq_self.2 fun q hq => by rw [hall q hq, hb], hlen]; rfl
theorem ug5 (t : ai) (x : am) : jp t x (gh t) = fa t x := rfl
end Go.AB
namespace Go.AB
open Go Go.RowKit
open Go.AB.Enc (cells)
open Go.PB (ar ai PlaceD az bf ba bj am af ci bi)
section
variable {N : Net} {R C : Nat → Int}
end
end Go.AB
namespace Go.PB
structure cy where
 readers : List Int
 pages : List Int
 read : List (List Int)
/-- the reference's: readers and pages alone -/
structure c6 where
 readers : List Int
 pages : List Int
end Go.PB
namespace Go.AB
open Go Go.RowKit
open Go.AB.Enc (cells)
open Go.PB (ar ai PlaceD az bf ba bj am af ci bi cy c6)
instance : Enc cy := ⟨fun x => [lst x.readers, lst x.pages, lst x.read], 3, fun _ => rfl, fun m x c h => by
 simp only [List.mem_cons, List.not_mem_nil, or_false] at h
 rcases h with rfl | rfl | rfl
 ·exact bp m _
 ·exact bp m _
 ·exact bp m _, fun x c h => by
 simp only [List.mem_cons, List.not_mem_nil, or_false] at h; rcases h with rfl | rfl | rfl <;> rfl⟩
def f5 (p : af) (R C : Nat → Int) : cy := ⟨co (cb p) R, co p.pages.length C, p.pages.map (di p)⟩
/-- numbers that no sum of takes too far -/
structure Bd (p : af) (R C : Nat → Int) : Prop where
 r : ∀ i, -1000000 ≤ R i ∧ R i ≤ 1000000
 c : ∀ j, 0 ≤ C j ∧ C j ≤ 1000000
 nr : cb p ≤ 6
 np : p.pages.length ≤ 8
theorem uy {p : af} (h : fg p) : Bd p (ck p) (dg p) := ⟨fun i => by have := ul1 h i; omega, fun j => by have := unx h j; omega, by have := h.nf; have := h.ns; unfold cb; omega, h.np⟩
/-- what some first readers of a set have -/
def fR (R : Nat → Int) (S : Nat → Bool) (i : Nat) : Int := sm i fun k => bif S k then R k else 0
def fC (p : af) (C : Nat → Int) (S : Nat → Bool) (j : Nat) : Int := sm j fun k => bif (bn p).hit S k then 0 else C k
theorem uex (p : af) (R C : Nat → Int) (S : Nat → Bool) : (bn p).f R C S = fR R S (cb p) + fC p C S p.pages.length := rfl
theorem yo {g : Nat → Int} {m : Int} (h : ∀ i, -m ≤ g i ∧ g i ≤ m) : ∀ n : Nat, -(n * m) ≤ sm n g ∧ sm n g ≤ n * m
 | 0 => by simp [sm]
 | n + 1 => by
  have h1 := yo h n
  have h2 := h n
  have e : ((n + 1 : Nat) : Int) * m = (n : Int) * m + m := by rw [Int.natCast_add, Int.add_mul]; simp
  simp only [sm]
  omega
theorem uao {p : af} {R C : Nat → Int} (h : Bd p R C) (S : Nat → Bool) (i : Nat) (hi : i ≤ cb p) : -6000000 ≤ fR R S i ∧ fR R S i ≤ 6000000 := by
 have := yo (g := fun k => bif S k then R k else 0) (m := 1000000) (fun k => by cases S k; simp; exact h.r k) i
 have := h.nr
 unfold fR
 omega
theorem ue2 {p : af} {R C : Nat → Int} (h : Bd p R C) (S : Nat → Bool) (j : Nat) (hj : j ≤ p.pages.length) : 0 ≤ fC p C S j ∧ fC p C S j ≤ 8000000 := by
 have h1 := yo (g := fun k => bif (bn p).hit S k then 0 else C k) (m := 1000000) (fun k => by have := h.c k; cases (bn p).hit S k; simp; omega; simp) j
 have h2 := uif (n := j) (g := fun k => bif (bn p).hit S k then 0 else C k) fun k _ => by have := h.c k; cases (bn p).hit S k; exact this.1; exact Int.le_refl _
 have := h.np
 unfold fC
 omega
theorem f_bd {p : af} {R C : Nat → Int} (h : Bd p R C) (S : Nat → Bool) : -6000000 ≤ (bn p).f R C S ∧ (bn p).f R C S ≤ 14000000 := by
 have h1 := uao h S _ (Nat.le_refl _)
 have h2 := ue2 h S _ (Nat.le_refl _)
 rw [uex]
 omega
theorem udt {g : Nat → Int} {a b : Int} (h : ∀ s, a ≤ g s ∧ g s ≤ b) (k : Nat) : a ≤ mh g k ∧ mh g k ≤ b := by
 obtain ⟨s, _, e⟩ := z6 (g := g) k
 rw [e]
 exact h s
theorem udp {p : af} {R C : Nat → Int} (h : Bd p R C) : -6000000 ≤ (bn p).most R C ∧ (bn p).most R C ≤ 14000000 := udt (fun s => f_bd h _) _
end Go.AB
namespace Go.AB
open Go Go.RowKit
open Go.AB.Enc (cells)
section
variable {P : Program} {o : Oper} {st : St} {K : St → Prop}
end
end Go.AB
namespace Go.AB
open Go Go.RowKit Go.Shelf Go.Proofs
open Go.AB.Enc (cells)
section
variable {P : Program} {o : Oper} {st : St} {K : St → Prop}
theorem ukp {E : Env} {w : World} {v : Value} {n ver len : Nat} (hp : R E w (.own n ver len) v) : ∃ a cap, v = .slice a len cap ∧ n < E.nx ∧ len ≤ cap ∧ cap ≤ maxLen ∧ ∀ ver' wv val, E.T n = some (ver', wv, val) → ver ≤ ver' ∧ (ver = ver' → ∃ m, len ≤ m ∧ val = .slice a m cap) := by
 cases hp with
 | own h1 h2 h3 h4 => exact ⟨_, _, rfl, h1, h2, h3, h4⟩
/-- append of nothing onto an own slice. -/
theorem uld {t e : TypeId} {sz bytes n ver m : Nat} [AppT P t e sz bytes] {s x : Operand} {tk : Tok} (ho : o.op = .call { callee := .builtin .append, args := #[s, x], argTypes := #[t, t] }) (hs : evC st s = .own n ver m) (hx : evC st x = .list [] tk) : NStep P o st (.own n ver m) := fun E w a hsim => by
 obtain ⟨ht, i, z, hie, hz, h1, h2, h3⟩ := AppT.spec (P := P) (t := t) (e := e) (sz := sz) (bytes := bytes)
 have hown := hs ▸ hsim.ev s
 obtain ⟨ad, cap, e1, q1, q2, q3, q4⟩ := ukp hown
 obtain ⟨ao, c, _, _, e3, _⟩ := (hx ▸ hsim.ev x).list_inv
 refine ⟨a.eval s, hown, fun w' => ?_⟩
 have hrun := tn (P := P) w' t o.type e i ht hie ad ao m cap c q2
 simp only [execOp, ho, resolve, invoke, builtin, Sem.run_bind, Sem.run_pure, Result.andThen_ok, List.map_toArray, List.map_cons, List.map_nil, e1, e3]
 rw [List.length_nil] at *
 rw [hrun]; rfl
/-- append of data onto an own slice. -/
theorem o1 {α : Type} [Enc α] {t e : TypeId} {bytes n ver wv : Nat} [AppT P t e (Enc.n α) bytes] {s x : Operand} {tk : Tok} {rows : List (List C)} {xs : List α} {m : Nat} {cs : List C} (ys : List α) (ho : o.op = .call { callee := .builtin .append, args := #[s, x], argTypes := #[t, t] }) (hs : evC st s = .own n ver m) (hG : st.G n = some (.arr ver wv e (Enc.n α) m cs)) (hc : cs = bv xs) (hm : m = xs.length) (hx : evC st x = .list rows tk) (hy : rows = ys.map cells) (hb : (xs.length + ys.length) * bytes ≤ 140737488355328) (hmax : xs.length + ys.length ≤ 9223372036854775807)
  (h : ∀ v : Nat, K (St.put { st with G := aj st.G n (.arr v wv e (Enc.n α) (xs ++ ys).length (bv (xs ++ ys))) } o.dst (.own n v (xs ++ ys).length))) : EStep P o st K := by
 subst hc; subst hm; subst hy
 by_cases h0 : ys = []
 ·subst h0
  have h1 := h ver
  simp only [List.append_nil] at h1
  have h2 : aj st.G n (.arr ver wv e (Enc.n α) xs.length (bv xs)) = st.G := by
   funext k
   simp only [aj]
   split
   ·rename_i e; rw [e, hG]
   ·rfl
  rw [h2] at h1
  exact SStep.e' (NStep.s (D := fun _ => True) (uld ho hs hx)) h1
 ·refine unc ho hs hG hx (mi ys) (by simpa using hb) (by simpa using hmax) (by simpa using h0) ?_
  have h1 := h (ver + 1)
  rw [ues] at h1
  simpa [bv] using h1
end
end Go.AB
namespace Go.AB
open Go Go.RowKit
open Go.AB.Enc (cells)
open Go.PB (ar ai PlaceD az bf ba bj am af ci bi cy c6)
/-- the first of some numbers that is not nought -/
def orN (xs : List Int) : Int := (xs.find? fun x => !decide (x = 0)).getD 0
theorem ukr {xs : List Int} {k : Nat} {x : Int} (hx : xs[k]? = some x) (hne : x ≠ 0) (h : ∀ y ∈ xs.take k, y = 0) : orN xs = x := by
 unfold orN
 rw [List.find?_eq_some_iff_append.2 ⟨by simpa using hne, xs.take k, xs.drop (k + 1), ?_, fun y hy => by simp [h y hy]⟩]
 ·rfl
 obtain ⟨h1, h2⟩ := List.getElem?_eq_some_iff.1 hx
 rw [← h2, ← List.drop_eq_getElem_cons h1, List.take_append_drop]
theorem ukt {xs : List Int} (h : ∀ y ∈ xs, y = 0) : orN xs = 0 := by
 unfold orN
 rw [List.find?_eq_none.2 fun y hy => by simp [h y hy]]
 rfl
theorem ulj {α : Type} {l : List α} {k : Nat} {x : α} {p : α → Prop} (hx : l[k]? = some x) (hp : p x) (h : ∀ y ∈ l.take k, p y) : ∀ y ∈ l.take (k + 1), p y := fun y hy => by
 rw [List.take_add_one, hx] at hy
 simp only [Option.toList_some, List.mem_append, List.mem_singleton] at hy
 rcases hy with hy | rfl
 ·exact h y hy
 exact hp
def mg (a b : PlaceD) : Int := ez (cw a) (cw b)
theorem uks (a b : PlaceD) : orN [ie a.ch b.ch, ie a.ln b.ln, ie a.wd b.wd] = mg a b := by
 unfold orN mg cw
 simp only [ez]
 by_cases h1 : ie a.ch b.ch = 0
 ·by_cases h2 : ie a.ln b.ln = 0
  ·by_cases h3 : ie a.wd b.wd = 0 <;> simp [h1, h2, h3]
  simp [h1, h2]
 simp [h1]
/-- the order of lists, shorter ones first -/
def yr (a b : List Int) : Int := orN [(a.length : Int) - (b.length : Int), ez a b]
theorem vv (a b : List Int) : decide (yr a b < 0) = iy a b := by
 unfold yr orN iy
 by_cases h1 : (a.length : Int) - (b.length : Int) = 0
 ·have h2 : a.length = b.length := by omega
  have h3 : ¬ a.length < b.length := by omega
  by_cases h4 : ez a b = 0
  ·simp [h2, h4]
  simp [h2, h4]
 have h2 : ¬ a.length = b.length := by omega
 by_cases h3 : a.length < b.length
 ·have : (a.length : Int) - (b.length : Int) < 0 := by omega
  simp [h1, h2, h3, this]
 have : ¬ (a.length : Int) - (b.length : Int) < 0 := by omega
 simp [h1, h2, h3, this]
def mp (t : ai) (k : Nat) : List Int := (List.range k).map fun i => (fq t i : Int)
theorem ubt (t : ai) (k : Nat) : (mp t k).length = k := by simp [mp]
theorem ubu {t : ai} {k i : Nat} (h : i < k) : (mp t k)[i]? = some (fq t i : Int) := by simp [mp, h]
theorem uib (t : ai) (k : Nat) : mp t (k + 1) = mp t k ++ [(fq t k : Int)] := by
 unfold mp
 rw [List.range_succ, List.map_append]; rfl
theorem vo {t : ai} (ht : dp t = true) (k : Nat) (hk : k ≤ t.length) : fq t k ≤ 60 := by
 obtain ⟨h1, h2, h3⟩ := mb ht
 have key : ∀ k, k ≤ t.length → fq t k ≤ 10 * k := by
  intro k
  induction k with
  | zero => intro _; rw [ubv]; exact Nat.zero_le _
  | succ k ih =>
   intro hk
   have hc : t[k]? = some t[k] := List.getElem?_eq_getElem (by omega)
   rw [tf hc]
   have := ih (by omega)
   have := (h3 _ (fw hc)).2.1
   omega
 have := key k hk
 omega
end Go.AB
namespace Go.Proofs.YtbbdginipiljdaaDoor
set_option maxRecDepth 10000
open Go.RowKit Go.AB
open Go.AB.Enc (cells)
open Go.PB (ar ai PlaceD az bf ba bj am af ci bi cy c6)
theorem ucz (xs : List Int) : Pure Tryd.prog 87 [lst xs] (.v (.int .i64 (orN xs))) := by
 refine cz Tryd.func87 rfl (fun m => .v) fun G nx => ?_
 simp only [Tryd.ntmps87, List.length_cons, List.length_nil, Nat.reduceAdd, Nat.reduceSub]
 refine br fun hlt => ?_
 dsimp only at hlt
 refine kp 0 (fun hf => ?_)
 replace hf := (fit_lst.1 hf).1
 refine yS fun _ K1 => ?_
 refine yR ?_
 refine yA rfl rfl ?_
 refine yN ?_
 dsimp only [St.put]
 refine K1 _ ?_
 refine yS fun _ K2 => ?_
 refine yR ?_
 refine yA rfl rfl ?_
 refine yN ?_
 dsimp only [St.put]
 refine K2 _ ?_
 refine yS fun _ K3 => ?_
 refine yS fun _ K4 => ?_
 refine yR ?_
 refine yM rfl rfl ?_
 refine aa rfl (bl rfl rfl (List.length_map _)) ?_
 refine yM rfl rfl ?_
 refine yN ?_
 dsimp only [St.put]
 refine K4 _ ?_
 refine bh ?_
 refine cr 9 ?_
 refine zQ ?_
 refine dl (G) zX ?_
 dsimp only
 refine dj (X := Nat) (fun k => k ≤ xs.length ∧ ∀ y ∈ xs.take k, y = 0) (fun k => xs.length - k) (fun k => [(4, .any), (5, .any), (8, .v (.int .i64 (k : Int)))]) (fun k G' => G') 0 rfl ?_ ?_ (fun _ _ h => h) ?_ ?_ ?_
 ·exact ⟨by simp, by simp⟩
 ·exact zF
 ·rintro k hI
  exact zL
 ·exact fun _ _ _ _ h => .inl h
 rintro k hI
 dsimp only at hI ⊢
 refine yS fun _ K5 => ?_
 refine yR ?_
 refine aa rfl (cn rfl rfl rfl) ?_
 refine yN ?_
 dsimp only [St.put]
 refine K5 _ ?_
 refine yS fun _ K6 => ?_
 refine av rfl (fun hc => ?_) (fun hc => ?_)
 ·replace hc := of_decide_eq_true hc
  obtain ⟨x, hx⟩ : ∃ x, xs[k]? = some x := dm (by omega)
  refine ay ?_
  refine K6 _ ?_
  refine yS fun _ K7 => ?_
  refine bh ?_
  refine yS fun _ K8 => ?_
  refine yR ?_
  refine aa rfl (bz rfl rfl rfl rfl (bw (by assumption)) (Enc.len _)) ?_
  refine yL rfl rfl rfl ?_
  refine yA rfl rfl ?_
  refine yN ?_
  dsimp only [St.put]
  refine K8 _ ?_
  refine yS fun _ K9 => ?_
  refine yR ?_
  refine yM rfl rfl ?_
  refine yM rfl rfl ?_
  refine aa rfl (fu rfl rfl rfl) ?_
  refine yN ?_
  dsimp only [St.put]
  refine K9 _ ?_
  refine av rfl (fun hc => ?_) (fun hc => ?_)
  ·replace hc := j8 hc
   refine yS fun _ K10 => ?_
   refine yR ?_
   refine yM rfl rfl ?_
   refine yA rfl rfl ?_
   refine yN ?_
   dsimp only [St.put]
   refine K10 _ ?_
   refine aq ?_
   refine bg rfl (by constructor) zN zS ?_
   exact vi (ukr hx hc hI.2).symm
  replace hc := ii hc
  refine ay ?_
  refine K7 _ ?_
  refine yR ?_
  refine aa rfl (ce rfl rfl rfl (by omega)) ?_
  refine yM rfl rfl ?_
  refine yN ?_
  dsimp only [St.put]
  exact ⟨k + 1, by omega, ⟨by omega, ulj hx hc hI.2⟩, ⟨⟨rfl, rfl⟩, zF, zB, zN, zX⟩⟩
 try replace hc := of_decide_eq_false hc
 refine dh ?_
 refine K3 _ ?_
 refine yS fun _ K11 => ?_
 refine yR ?_
 refine yM rfl rfl ?_
 refine yA rfl rfl ?_
 refine yN ?_
 dsimp only [St.put]
 refine K11 _ ?_
 refine aq ?_
 refine bg rfl (by constructor) zN zS ?_
 exact vi (by
  rw [ukt]
  have := hI.2
  rwa [gm (by omega)] at this)
theorem ukj (n lo hi : Int) : Pure Tryd.prog 81 [.v (.int .i64 n), .elem [.v (.int .i64 lo)], .elem [.v (.int .i64 hi)]] (.v (.bool (mr n lo hi))) := by
 refine cz Tryd.func81 rfl (fun m => .v) fun G nx => ?_
 simp only [Tryd.ntmps81, List.length_cons, List.length_nil, Nat.reduceAdd, Nat.reduceSub]
 refine br fun hlt => ?_
 dsimp only at hlt
 refine yS fun _ K1 => ?_
 refine yR ?_
 refine yA rfl rfl ?_
 refine yN ?_
 dsimp only [St.put]
 refine K1 _ ?_
 refine yS fun _ K2 => ?_
 refine yR ?_
 refine yM rfl rfl ?_
 refine yL rfl rfl rfl ?_
 refine aa rfl (cn rfl rfl rfl) ?_
 refine eu (fun hs => ?_) (fun hs => ?_)
 ·try replace hs := of_decide_eq_true hs
  refine yM rfl rfl ?_
  refine yK rfl ?_
  refine yK rfl ?_
  refine yK rfl ?_
  refine aa rfl (bu rfl rfl (by constructor)) ?_
  refine yA rfl rfl ?_
  refine yN ?_
  dsimp only [St.put]
  refine K2 _ ?_
  refine aq ?_
  refine bg rfl (by constructor) zN zS ?_
  exact vb (by simp [mr, hs]; try omega)
 try replace hs := of_decide_eq_false hs
 refine yM rfl rfl ?_
 refine yM rfl rfl ?_
 refine yL rfl rfl rfl ?_
 refine aa rfl (ij rfl rfl rfl) ?_
 refine aa rfl (cm rfl rfl (by constructor)) ?_
 refine yA rfl rfl ?_
 refine yN ?_
 dsimp only [St.put]
 refine K2 _ ?_
 refine aq ?_
 refine bg rfl (by constructor) zN zS ?_
 exact vb (by simp [mr, hs]; try omega)
theorem nl (lo hi : Int) (xs : List Int) : Pure Tryd.prog 48 [.v (.int .i64 lo), .v (.int .i64 hi), lst xs] (.v (.bool (w8 lo hi xs))) := by
 refine cz Tryd.func48 rfl (fun m => .v) fun G nx => ?_
 simp only [Tryd.ntmps48, List.length_cons, List.length_nil, Nat.reduceAdd, Nat.reduceSub]
 refine br fun hlt => ?_
 dsimp only at hlt
 refine yS fun _ K1 => ?_
 refine yR ?_
 try dsimp only [St.put]
 refine yB rfl rfl rfl ?_
 try dsimp only [St.put]
 refine yB rfl rfl rfl ?_
 refine yA rfl rfl ?_
 refine yN ?_
 dsimp only [St.put]
 refine K1 _ ?_
 refine yS fun _ K2 => ?_
 refine yR ?_
 refine yM rfl rfl ?_
 refine aa rfl (qi rfl rfl) ?_
 try dsimp only [St.put]
 refine ae rfl (ax rfl rfl rfl (xy xs (fun n => mr n lo hi) _ _ fun x _ => ukj x lo hi) ?_)
 refine aa rfl (d7 rfl rfl) ?_
 refine yA rfl rfl ?_
 refine yN ?_
 dsimp only [St.put]
 refine K2 _ ?_
 refine aq ?_
 refine bg rfl (by constructor) zN zS ?_
 rfl
theorem ze (a b : PlaceD) : Pure Tryd.prog 75 [val a, val b] (.v (.int .i64 (mg a b))) := by
 refine cz Tryd.func75 rfl (fun m => .v) fun G nx => ?_
 simp only [Tryd.ntmps75, List.length_cons, List.length_nil, Nat.reduceAdd, Nat.reduceSub]
 refine br fun hlt => ?_
 dsimp only at hlt
 refine yS fun _ K1 => ?_
 refine yR ?_
 try dsimp only [St.put]
 refine yB rfl rfl rfl ?_
 try dsimp only [St.put]
 refine yB rfl rfl rfl ?_
 refine yA rfl rfl ?_
 refine yN ?_
 dsimp only [St.put]
 refine K1 _ ?_
 refine yS fun _ K2 => ?_
 refine gt [(0, none), (1, none), (2, none), (3, none), (5, none), (6, none), (7, none), (8, none), (10, none), (11, none), (12, none), (13, none), (4, none), (9, none), (14, none), (15, none), (16, none), (17, none)] (fun i => [14, 15, 16].contains i) (fun i => [4, 9, 14, 15, 16].contains i) (fun i => [0, 2, 5, 7, 10, 12, 17].contains i) [] (by kernel_rfl) (by kernel_rfl) ?_
 refine ah rfl rfl rfl rfl (cj rfl rfl rfl) ?_
 try dsimp only [St.put]
 refine aw rfl rfl rfl rfl (ca rfl rfl) ?_
 refine ah rfl rfl rfl rfl (cj rfl rfl rfl) ?_
 try dsimp only [St.put]
 refine aw rfl rfl rfl rfl (ca rfl rfl) ?_
 refine ah rfl rfl rfl rfl (cj rfl rfl rfl) ?_
 try dsimp only [St.put]
 refine aw rfl rfl rfl rfl (ca rfl rfl) ?_
 refine ah rfl rfl rfl rfl (cj rfl rfl rfl) ?_
 try dsimp only [St.put]
 refine aw rfl rfl rfl rfl (ca rfl rfl) ?_
 refine ah rfl rfl rfl rfl (cj rfl rfl rfl) ?_
 try dsimp only [St.put]
 refine aw rfl rfl rfl rfl (ca rfl rfl) ?_
 refine ah rfl rfl rfl rfl (cj rfl rfl rfl) ?_
 try dsimp only [St.put]
 refine aw rfl rfl rfl rfl (ca rfl rfl) ?_
 refine ja ?_
 try dsimp only [St.put]
 refine i9 rfl rfl rfl (ax rfl rfl rfl (xl _ _) ⟨zD, ?_⟩)
 try dsimp only [St.put]
 refine i9 rfl rfl rfl (ax rfl rfl rfl (xl _ _) ⟨zD, ?_⟩)
 try dsimp only [St.put]
 refine gd rfl rfl rfl rfl (ax rfl rfl rfl (xl _ _) ?_)
 try dsimp only [St.put]
 refine gd rfl rfl rfl rfl (dv rfl rfl rfl (by decide) (by decide) zR (by decide) ?_)
 try dsimp only [St.put]
 refine gd rfl rfl rfl rfl (ax rfl rfl rfl (ucz [ie a.ch b.ch, ie a.ln b.ln, ie a.wd b.wd]) ?_)
 refine dz rfl rfl rfl rfl (f9 rfl (by constructor)) ?_
 refine i7 ?_
 dsimp only [St.put]
 refine K2 _ ?_
 refine aq ?_
 refine bg rfl (by constructor) zN zS ?_
 exact vi (uks a b)
theorem ukf (a b : List Int) (ha : a.length ≤ 1000) (hb : b.length ≤ 1000) : Pure Tryd.prog 59 [lst a, lst b] (.v (.int .i64 (yr a b))) := by
 refine cz Tryd.func59 rfl (fun m => .v) fun G nx => ?_
 simp only [Tryd.ntmps59, List.length_cons, List.length_nil, Nat.reduceAdd, Nat.reduceSub]
 refine br fun hlt => ?_
 dsimp only at hlt
 refine yS fun _ K1 => ?_
 refine yR ?_
 refine yA rfl rfl ?_
 refine yN ?_
 dsimp only [St.put]
 refine K1 _ ?_
 refine yS fun _ K2 => ?_
 refine yR ?_
 refine yM rfl rfl ?_
 refine aa rfl (bl rfl rfl (List.length_map _)) ?_
 refine yM rfl rfl ?_
 refine aa rfl (bl rfl rfl (List.length_map _)) ?_
 refine aa rfl (iw rfl rfl rfl (by omega)) ?_
 refine yM rfl rfl ?_
 refine yM rfl rfl ?_
 try dsimp only [St.put]
 refine ae rfl (ax rfl rfl rfl (uni a b ha hb) ?_)
 try dsimp only [St.put]
 refine ae rfl (dv rfl rfl rfl (by decide) (by decide) zR (by decide) ?_)
 try dsimp only [St.put]
 refine ae rfl (ax rfl rfl rfl (ucz [(a.length : Int) - (b.length : Int), ez a b]) ?_)
 refine yA rfl rfl ?_
 refine yN ?_
 dsimp only [St.put]
 refine K2 _ ?_
 refine aq ?_
 refine bg rfl (by constructor) zN zS ?_
 rfl
theorem uke (t : ai) (q : PlaceD) (ht : dp t = true) : Pure Tryd.prog 74 [gl t, val q] (.v (.bool (fp t q))) := by
 refine cz Tryd.func74 rfl (fun m => .v) fun G nx => ?_
 simp only [Tryd.ntmps74, List.length_cons, List.length_nil, Nat.reduceAdd, Nat.reduceSub]
 refine br fun hlt => ?_
 dsimp only at hlt
 obtain ⟨hl1, hl2, hl3⟩ := mb ht
 refine yS fun _ K1 => ?_
 refine yR ?_
 try dsimp only [St.put]
 refine yB rfl rfl rfl ?_
 try dsimp only [St.put]
 refine yB rfl rfl rfl ?_
 refine yA rfl rfl ?_
 refine yN ?_
 dsimp only [St.put]
 refine K1 _ ?_
 refine yS fun _ K2 => ?_
 refine cr 5 ?_
 refine zQ ?_
 refine l7 (X := Bool) (fun b => b = !(gu t (q.ch, q.ln)).isSome) (fun b => [(29, .v (.bool b))]) (fun b G' => G') rfl ?_ (fun _ _ _ _ h => .inl h) ?_ ?_
 ·rintro b hI
  exact zL
 ·refine qv [(0, none), (1, none), (2, none), (3, none), (4, none), (5, none)] (fun _ => false) (fun i => [0, 2, 3, 4].contains i) 19 (rl [6, 19]) (by kernel_rfl) (by kernel_rfl) ?_
  refine ah rfl rfl rfl rfl (cj rfl rfl rfl) ?_
  try dsimp only [St.put]
  refine aw rfl rfl rfl rfl (ca rfl rfl) ?_
  refine ah rfl rfl rfl rfl (bl rfl rfl (List.length_map _)) ?_
  refine ah rfl rfl rfl rfl (iw rfl rfl rfl (by omega)) ?_
  refine ah rfl rfl rfl rfl (cj rfl rfl rfl) ?_
  try dsimp only [St.put]
  refine aw rfl rfl rfl rfl (ca rfl rfl) ?_
  refine cg ?_
  refine dr [6] (by kernel_rfl) (by simp) ?_
  refine dx ?_ ?_
  ·try dsimp only [St.put]
   refine iz rfl rfl rfl (dv rfl rfl rfl (by decide) (by decide) zR (by decide) ?_)
   refine dr [7] (by kernel_rfl) (by simp) ?_
   refine dx ?_ ?_
   ·try dsimp only [St.put]
    refine iz rfl rfl rfl (ax rfl rfl rfl (nl _ _ [_]) ?_)
    refine ef [(8, none), (9, none), (10, none), (11, none), (12, none), (13, none), (14, none), (15, none), (16, none), (17, none), (18, none), (19, none), (20, none)] (fun i => [8, 9, 10, 12, 14, 15, 17, 18, 19].contains i) 4 (rl [21, 4]) (by kernel_rfl) ?_
    refine ah rfl rfl rfl rfl (d7 rfl rfl) ?_
    refine xM rfl rfl rfl rfl rfl ?_
    refine j5 (fun hs => ?_) (fun hs => ?_)
    ·have h8 : inB q.ch 0 ((t.length : Int) - 1) = false := by rw [ga] at hs; simpa using hs
     refine ak rfl rfl rfl ?_
     refine ak rfl rfl rfl ?_
     refine ak rfl rfl rfl ?_
     refine ak rfl rfl rfl ?_
     refine ak rfl rfl rfl ?_
     refine ak rfl rfl rfl ?_
     refine ak rfl rfl rfl ?_
     refine ak rfl rfl rfl ?_
     refine ak rfl rfl rfl ?_
     refine ak rfl rfl rfl ?_
     refine ak rfl rfl rfl ?_
     refine cg ?_
     refine dr [21] (by kernel_rfl) (by simp) ?_
     refine dx ?_ ?_
     ·refine fy rfl rfl rfl ?_
      refine dr [22] (by kernel_rfl) (by simp) ?_
      refine dx ?_ ?_
      ·refine fy rfl rfl rfl ?_
       refine ef [(23, none), (24, none)] (fun i => [23, 24].contains i) 0 (rl [25]) (by kernel_rfl) ?_
       refine ak rfl rfl rfl ?_
       refine ah rfl rfl rfl rfl (bu rfl rfl (by constructor)) ?_
       refine cg ?_
       dsimp only [St.put]
       refine g8 (by kernel_rfl) ?_
       refine ⟨_, ?_, ⟨⟨rfl, rfl⟩, zF, zB, zN, zX⟩⟩
       rw [vj]
       (simp [h8]; done)
      exact dw
     exact dw
    have h8 : inB q.ch 0 ((t.length : Int) - 1) = true := by rw [ga] at hs; simpa using hs
    have hn1' := h8
    simp only [inB_true] at hn1'
    obtain ⟨c, hcx⟩ : ∃ c, t[q.ch.toNat]? = some c := dm (by omega)
    have hnl : lx t q.ch = c.lines.length := by simp [lx, hcx]
    have hll := (hl3 c (fw hcx)).2.1
    have hch : q.ch = ((q.ch.toNat : Nat) : Int) := by omega
    refine ah rfl rfl rfl rfl (cj rfl rfl rfl) ?_
    try dsimp only [St.put]
    refine aw rfl rfl rfl rfl (ca rfl rfl) ?_
    refine ah rfl rfl rfl rfl (cj rfl rfl rfl) ?_
    try dsimp only [St.put]
    refine aw rfl rfl rfl rfl (ca rfl rfl) ?_
    try dsimp only [St.put]
    refine ah rfl rfl rfl rfl (bz rfl rfl rfl (by omega) (bw (by assumption)) (Enc.len _)) ?_
    refine ah rfl rfl rfl rfl (cj rfl rfl rfl) ?_
    try dsimp only [St.put]
    refine aw rfl rfl rfl rfl (ca rfl rfl) ?_
    refine ah rfl rfl rfl rfl (bl rfl rfl (List.length_map _)) ?_
    refine ah rfl rfl rfl rfl (iw rfl rfl rfl (by omega)) ?_
    refine ah rfl rfl rfl rfl (cj rfl rfl rfl) ?_
    try dsimp only [St.put]
    refine aw rfl rfl rfl rfl (ca rfl rfl) ?_
    refine cg ?_
    refine dr [21] (by kernel_rfl) (by simp) ?_
    refine dx ?_ ?_
    ·try dsimp only [St.put]
     refine iz rfl rfl rfl (dv rfl rfl rfl (by decide) (by decide) zR (by decide) ?_)
     refine dr [22] (by kernel_rfl) (by simp) ?_
     refine dx ?_ ?_
     ·try dsimp only [St.put]
      refine iz rfl rfl rfl (ax rfl rfl rfl (nl _ _ [_]) ?_)
      refine ef [(23, none), (24, none)] (fun i => [23, 24].contains i) 0 (rl [25]) (by kernel_rfl) ?_
      refine ah rfl rfl rfl rfl (d7 rfl rfl) ?_
      refine ah rfl rfl rfl rfl (cm rfl rfl (by constructor)) ?_
      refine cg ?_
      dsimp only [St.put]
      refine g8 (by kernel_rfl) ?_
      refine ⟨_, ?_, ⟨⟨rfl, rfl⟩, zF, zB, zN, zX⟩⟩
      rw [vj]
      (simp [h8, hnl, ga]; done)
     exact dw
    exact dw
   exact dw
  exact dw
 rintro b hst
 dsimp only at hst ⊢
 refine av rfl (fun hc => ?_) (fun hc => ?_)
 ·have hw : gu t (q.ch, q.ln) = none := by rw [hc] at hst; simpa using hst.symm
  refine yS fun _ K4 => ?_
  refine yR ?_
  refine yA rfl rfl ?_
  refine yN ?_
  dsimp only [St.put]
  refine K4 _ ?_
  refine aq ?_
  refine bg rfl (by constructor) zN zS ?_
  exact vb (by unfold fp; rw [hw])
 have hw0 : (gu t (q.ch, q.ln)).isSome = true := by rw [hc] at hst; simpa using hst.symm
 obtain ⟨l, hw⟩ := Option.isSome_iff_exists.1 hw0
 obtain ⟨k, n, c, hkn, hk, hn⟩ := s8 hw
 have hch : q.ch = ((k : Nat) : Int) := congrArg Prod.fst hkn
 have hln : q.ln = ((n : Nat) : Int) := congrArg Prod.snd hkn
 have hwl := vh ht hw
 refine ay ?_
 refine K2 _ ?_
 refine yS fun _ K5 => ?_
 refine gt [(0, none), (1, none), (2, none), (3, none), (4, none), (5, none), (6, none), (7, none), (8, none), (9, none), (10, none), (11, none), (12, none), (13, none), (14, none), (15, none), (16, none), (17, none)] (fun i => [16].contains i) (fun i => [15, 16].contains i) (fun i => [0, 2, 4, 5, 7, 9, 11, 12, 13, 17].contains i) [] (by kernel_rfl) (by kernel_rfl) ?_
 refine ah rfl rfl rfl rfl (cj rfl rfl rfl) ?_
 try dsimp only [St.put]
 refine aw rfl rfl rfl rfl (ca rfl rfl) ?_
 refine ah rfl rfl rfl rfl (cj rfl rfl rfl) ?_
 try dsimp only [St.put]
 refine aw rfl rfl rfl rfl (ca rfl rfl) ?_
 try dsimp only [St.put]
 refine ah rfl rfl rfl rfl (bz rfl rfl rfl (by omega) (bw (by assumption)) (Enc.len _)) ?_
 refine ah rfl rfl rfl rfl (cj rfl rfl rfl) ?_
 try dsimp only [St.put]
 refine aw rfl rfl rfl rfl (ca rfl rfl) ?_
 refine ah rfl rfl rfl rfl (cj rfl rfl rfl) ?_
 try dsimp only [St.put]
 refine aw rfl rfl rfl rfl (ca rfl rfl) ?_
 try dsimp only [St.put]
 refine ah rfl rfl rfl rfl (bz rfl rfl rfl (by omega) (bw (by assumption)) (Enc.len _)) ?_
 try dsimp only [St.put]
 refine aw rfl rfl rfl rfl (ca rfl rfl) ?_
 refine ah rfl rfl rfl rfl (bl rfl rfl (List.length_map _)) ?_
 refine ah rfl rfl rfl rfl (iw rfl rfl rfl (by omega)) ?_
 refine ah rfl rfl rfl rfl (cj rfl rfl rfl) ?_
 try dsimp only [St.put]
 refine aw rfl rfl rfl rfl (ca rfl rfl) ?_
 refine ja ?_
 try dsimp only [St.put]
 refine i9 rfl rfl rfl (dv rfl rfl rfl (by decide) (by decide) zR (by decide) ⟨zD, ?_⟩)
 try dsimp only [St.put]
 refine gd rfl rfl rfl rfl (ax rfl rfl rfl (nl _ _ [_]) ?_)
 refine dz rfl rfl rfl rfl (f9 rfl (by constructor)) ?_
 refine i7 ?_
 dsimp only [St.put]
 refine K5 _ ?_
 refine aq ?_
 refine bg rfl (by constructor) zN zS ?_
 exact vb (by unfold fp; rw [hw, ga])
theorem uki (t : ai) (ht : dp t = true) : Pure Tryd.prog 73 [gl t] (.tup [lst (mp t t.length), .v (.int .i64 (ms t : Int))]) := by
 refine cz Tryd.func73 rfl (fun m => .tup (bx (bp _ _) (bx .v c7))) fun G nx => ?_
 simp only [Tryd.ntmps73, List.length_cons, List.length_nil, Nat.reduceAdd, Nat.reduceSub]
 refine br fun hlt => ?_
 dsimp only at hlt
 obtain ⟨hl1, hl2, hl3⟩ := mb ht
 refine yS fun _ K1 => ?_
 refine yR ?_
 try dsimp only [St.put]
 refine yB rfl rfl rfl ?_
 refine yA rfl rfl ?_
 refine yA rfl rfl ?_
 refine yN ?_
 dsimp only [St.put]
 refine K1 _ ?_
 refine yS fun _ K2 => ?_
 refine yR ?_
 refine yA rfl rfl ?_
 refine yN ?_
 dsimp only [St.put]
 refine K2 _ ?_
 refine qw 4 3 1 rfl (by decide) ?_
 dsimp only [List.set_cons_zero, List.set_cons_succ]
 refine yS fun _ K3 => ?_
 refine yR ?_
 refine yA rfl rfl ?_
 refine yN ?_
 dsimp only [St.put]
 refine K3 _ ?_
 refine yS fun _ K4 => ?_
 refine yS fun _ K5 => ?_
 refine yR ?_
 refine yF rfl rfl rfl rfl ?_
 refine yL rfl rfl rfl ?_
 refine aa rfl (bl rfl rfl (List.length_map _)) ?_
 refine yM rfl rfl ?_
 refine yN ?_
 dsimp only [St.put]
 refine K5 _ ?_
 refine bh ?_
 refine cr 12 ?_
 refine zQ ?_
 refine dl (aj G nx (.tip 0 3 1)) zX ?_
 dsimp only
 refine dj (X := Nat) (fun k => k ≤ t.length) (fun k => t.length - k) (fun k => [(4, .list ((mp t k).map cells) (.tip nx)), (5, .v (.int .i64 (fq t k : Int))), (7, .any), (11, .v (.int .i64 (k : Int)))]) (fun k G' => aj G nx (.tip (mp t k).length 3 1)) 0 rfl ?_ ?_ ?_ ?_ ?_ ?_
 ·exact Nat.zero_le _
 ·exact zF
 ·exact zX
 ·rintro k hI
  exact zL
 ·rintro k hI
  exact zH
 rintro k hI
 dsimp only at hI ⊢
 refine yS fun _ K6 => ?_
 refine yR ?_
 refine aa rfl (cn rfl rfl rfl) ?_
 refine yN ?_
 dsimp only [St.put]
 refine K6 _ ?_
 refine yS fun _ K7 => ?_
 refine av rfl (fun hc => ?_) (fun hc => ?_)
 ·replace hc := of_decide_eq_true hc
  obtain ⟨c, hcx⟩ : ∃ c, t[k]? = some c := dm (by omega)
  have hll := (hl3 c (fw hcx)).2.1
  have hsl := vo ht k (by omega)
  have hst : ((fq t (k + 1) : Nat) : Int) = (fq t k : Int) + (c.lines.length : Int) := by rw [tf hcx]; omega
  have hln := ubt t k
  refine ay ?_
  refine K7 _ ?_
  refine yS fun _ K8 => ?_
  refine bh ?_
  refine yS fun _ K9 => ?_
  refine yR ?_
  refine aa rfl (bz rfl rfl rfl rfl (bw (by assumption)) (Enc.len _)) ?_
  refine yE rfl rfl rfl ?_
  try dsimp only [St.put]
  refine ae rfl (dd rfl ?_)
  try dsimp only [St.put]
  refine ae rfl (ct rfl rfl rfl zG rfl rfl (by rfl) ?_)
  refine yN ?_
  dsimp only [St.put]
  refine K9 _ ?_
  refine fl (i := 7) rfl zG zC ?_
  dsimp only
  refine yS fun _ K10 => ?_
  refine yR ?_
  refine yM rfl rfl ?_
  refine yM rfl rfl ?_
  try dsimp only [St.put]
  refine ae rfl (dv rfl rfl rfl (by decide) (by decide) zR (by decide) ?_)
  try dsimp only [St.put]
  refine ae rfl (km ([(fq t k : Int)]) rfl rfl zG zE rfl rfl zA ?_ zA)
  refine yA rfl rfl ?_
  refine yN ?_
  dsimp only [St.put]
  refine K10 _ ?_
  refine yR ?_
  refine yM rfl rfl ?_
  refine yF rfl rfl rfl rfl ?_
  refine yL rfl rfl rfl ?_
  refine aa rfl (bl rfl rfl (List.length_map _)) ?_
  refine aa rfl (ce rfl rfl rfl (by omega)) ?_
  refine yA rfl rfl ?_
  refine yN ?_
  dsimp only [St.put]
  refine K8 _ ?_
  refine yR ?_
  refine aa rfl (ce rfl rfl rfl (by omega)) ?_
  refine yM rfl rfl ?_
  refine yN ?_
  dsimp only [St.put]
  rw [← hst]
  simp only [← uib]
  exact ⟨k + 1, by omega, by omega, ⟨⟨rfl, rfl⟩, zF, zB, zN, zX⟩⟩
 replace hc := of_decide_eq_false hc
 obtain rfl : k = t.length := by omega
 refine dh ?_
 refine K4 _ ?_
 refine yS fun _ K11 => ?_
 refine yR ?_
 refine yM rfl rfl ?_
 refine yM rfl rfl ?_
 refine yA rfl rfl ?_
 refine yA rfl rfl ?_
 refine yN ?_
 dsimp only [St.put]
 refine K11 _ ?_
 refine aq ?_
 refine ia rfl (eb (by constructor)) (eb (by constructor)) zN zS ?_ ?_
 ·exact zW
 exact Wk.of_eq (vi rfl)
end Go.Proofs.YtbbdginipiljdaaDoor
namespace Go.AB
open Go Go.RowKit Go.ChangeShapes Go.WideShapes
open Go.AB.Enc (cells)
open Go.PB (ar ai PlaceD az bf ba)
/-- What is read along a type is a datum. -/
class OpensE (P : Program) (t : TypeId) (α : Type) [Enc α] : Prop where
 n : P.cellsOf t = Enc.n α
 op : ∀ {H : Type} {enc : TypeId × Value → H} {w : World} {base : Nat} {spare : Nat → Bool} {held : Bool} {fuel : Nat} {cs : List Value} {x : DataW H × List MemPlace}, DataW.trod enc P w base spare held fuel t cs = some x → ∃ a : α, Rs (j0 w) w (cells a) cs
def ul (P : Program) (t : TypeId) (k : IntKind) : Bool := match P.underlying t with | some (.int k') => k' == k && P.cellsOf t == 1 | _ => false
def yl (P : Program) (t : TypeId) : Bool := match P.underlying t with | some .string => P.cellsOf t == 1 | _ => false
def yp (P : Program) (t e : TypeId) : Bool := match P.underlying t with | some (.slice e') => e' == e && P.cellsOf t == 1 | _ => false
def jr (P : Program) (t : TypeId) (l : List (Nat × TypeId × Nat)) (n : Nat) : Bool := match P.underlying t with
 | some (.struct fs) => (fs.toList.map fun f => (f.offset, f.type, P.cellsOf f.type)) == l && P.cellsOf t == n
 | _ => false
theorem wfI64 {n : Int} (h : (Lit.int .i64 n).wf = true) : okV (.int .i64 n) = true := by
 simp [Lit.wf, IntKind.min, IntKind.max, IntKind.signed, IntKind.bits] at h
 exact j6 ⟨by omega, by omega⟩
theorem wfU8 {n : Int} (h : (Lit.int .u8 n).wf = true) : okV (.int .u8 n) = true := by
 simp [Lit.wf, IntKind.min, IntKind.max, IntKind.signed, IntKind.bits] at h
 exact zl ⟨by omega, by omega⟩
section
variable {P : Program} {t e : TypeId}
theorem uae {k : IntKind} (h : ul P t k = true) : P.underlying t = some (.int k) ∧ P.cellsOf t = 1 := by
 unfold ul at h
 split at h
 ·rename_i k' he
  simp only [Bool.and_eq_true, beq_iff_eq] at h
  rw [he, h.1]; exact ⟨rfl, h.2⟩
 ·cases h
theorem ubr (h : yl P t = true) : P.underlying t = some .string ∧ P.cellsOf t = 1 := by
 unfold yl at h
 split at h
 ·rename_i he; exact ⟨he, by simpa using h⟩
 ·cases h
theorem uby (h : yp P t e = true) : P.underlying t = some (.slice e) ∧ P.cellsOf t = 1 := by
 unfold yp at h
 split at h
 ·rename_i k' he
  simp only [Bool.and_eq_true, beq_iff_eq] at h
  rw [he, h.1]; exact ⟨rfl, h.2⟩
 ·cases h
theorem Rs.single {E : Env} {w : World} {c : C} {v : Value} (h : R E w c v) : Rs E w [c] [v] := Rs.cons h Rs.nil
theorem Rs.single_inv {E : Env} {w : World} {c : C} {v : Value} (h : Rs E w [c] [v]) : R E w c v := h.2 0 c v rfl rfl
theorem OpensE.int (h : ul P t .i64 = true) : OpensE P t Int where
 n := (uae h).2
 op hx := by
  obtain ⟨n, rfl, _, h2⟩ := DataW.trod_int (uae h).1 hx
  exact ⟨n, Rs.single (.v (wfI64 h2))⟩
theorem OpensE.str (h : yl P t = true) : OpensE P t ByteArray where
 n := (ubr h).2
 op hx := by
  obtain ⟨s, rfl, _, h2⟩ := DataW.trod_string (ubr h).1 hx
  exact ⟨s, Rs.single (.v (okV_str.2 (by simpa [maxLen] using h2)))⟩
theorem uic {w : World} {a : Addr} {v : Value} (h : w.cell? a = some v) : a.spot = none := by
 unfold World.cell? at h
 split at h
 ·split at h
  ·cases h
  ·rename_i hs
   cases hsp : a.spot with
   | none => rfl
   | some s => simp [hsp] at hs
 ·cases h
theorem ud1 {α : Type} {p : Nat → α → Prop} : ∀ (n : Nat), (∀ i, i < n → ∃ x, p i x) → ∃ xs : List α, xs.length = n ∧ ∀ i x, xs[i]? = some x → p i x
 | 0, _ => ⟨[], rfl, fun i x h => by simp at h⟩
 | n + 1, h => by
  obtain ⟨xs, h1, h2⟩ := ud1 n fun i hi => h i (by omega)
  obtain ⟨y, hy⟩ := h n (by omega)
  refine ⟨xs ++ [y], by simp [h1], fun i x hx => ?_⟩
  by_cases hi : i < xs.length
  ·rw [List.getElem?_append_left hi] at hx; exact h2 i x hx
  ·rw [List.getElem?_append_right (by omega)] at hx
   have hz : i - xs.length = 0 := by
    have := (List.getElem?_eq_some_iff.1 hx).1
    simp at this; omega
   rw [hz] at hx
   simp at hx
   subst hx
   rw [show i = n by omega]; exact hy
theorem ucc {α : Type} [Enc α] {E : Env} {w : World} {b : Nat} : ∀ (xs : List α) (off : Nat), (∀ i x, xs[i]? = some x → ∃ es, Rs E w (cells x) es ∧ ∀ j e, es[j]? = some e → w.cell? ⟨b, off + i * Enc.n α + j, none⟩ = some e) →
  ∃ us, Rs E w (xs.map cells).flatten us ∧ ∀ j u, us[j]? = some u → w.cell? ⟨b, off + j, none⟩ = some u
 | [], off, _ => ⟨[], Rs.nil, by simp⟩
 | x :: xs, off, h => by
  obtain ⟨es, h1, h2⟩ := h 0 x rfl
  obtain ⟨us, h3, h4⟩ := ucc xs (off + Enc.n α) fun i y hy => by
   obtain ⟨fs, k1, k2⟩ := h (i + 1) y (by simpa using hy)
   exact ⟨fs, k1, fun j e he => by rw [← k2 j e he]; congr 2; rw [Nat.add_mul]; omega⟩
  have hl : es.length = Enc.n α := by rw [h1.1]; exact Enc.len x
  refine ⟨es ++ us, by rw [List.map_cons, List.flatten_cons]; exact h1.append h3, fun j u hu => ?_⟩
  by_cases hj : j < es.length
  ·rw [List.getElem?_append_left hj] at hu
   rw [← h2 j u hu]; congr 2; omega
  ·rw [List.getElem?_append_right (by omega)] at hu
   rw [← h4 _ u hu]; congr 2; omega
theorem OpensE.slice {α : Type} [Enc α] [o : OpensE P e α] (h : yp P t e = true) (hpos : 1 ≤ Enc.n α) : OpensE P t (List α) where
 n := (uby h).2
 op {H enc w base spare held fuel cs x} hx := by
  rcases Deep.open_slice (uby h).1 hx with ⟨rfl, _⟩ | ⟨a, len, cap, m, n, D, Pl, rfl, hb, hl, hm, hmm, _, hel⟩
  ·refine ⟨[], Rs.single ?_⟩
   exact R.mk_list (rows := []) (sz := 1) (us := []) (Nat.le_refl _) (Nat.zero_le _) (Nat.le_refl _) (by simp) (by simp) Rs.nil (.inl rfl) (by simp) (by simp) (by simp)
  ·have hlm : len ≤ m := by rw [hmm]; split <;> omega
   have hs : 0 < len → a.spot = none := fun h0 => by
    obtain ⟨cs', hc, ht⟩ := hel 0 (by omega)
    obtain ⟨_, hlen, hcell⟩ := World.cells?_some hc
    rw [o.n] at hlen hcell
    have := hcell 0 (by omega)
    rw [List.getElem?_eq_getElem (by omega)] at this
    have := uic this
    simpa [Addr.add] using this
   obtain ⟨xs, h1, h2⟩ := ud1 (p := fun i (y : α) => ∃ es, Rs (j0 w) w (cells y) es ∧ ∀ j e, es[j]? = some e → w.cell? ⟨a.block, a.off + i * Enc.n α + j, none⟩ = some e) len fun i hi => by
    obtain ⟨cs', hc, ht⟩ := hel i (by omega)
    obtain ⟨y, hy⟩ := o.op ht
    obtain ⟨_, hlen, hcell⟩ := World.cells?_some hc
    rw [o.n] at hlen hcell hc
    have hs' := hs (by omega)
    refine ⟨y, cs', hy, fun j u hj => ?_⟩
    have hj' : j < Enc.n α := by rw [← hlen]; exact (List.getElem?_eq_some_iff.1 hj).1
    have := hcell j hj'
    rw [hj] at this
    rw [← this]
    obtain ⟨ab, ao, asp⟩ := a
    dsimp only at hs'
    subst hs'
    rw [ra, ra]
   subst h1
   refine ⟨xs, Rs.single ?_⟩
   obtain ⟨us, k1, k2⟩ := ucc (E := j0 w) (w := w) (b := a.block) xs a.off h2
   have := R.mk_list (E := j0 w) (w := w) (rows := xs.map cells) (a := some a) (cap := cap) (sz := Enc.n α) (us := us) (tok := .none) (by simpa using hl) hm hpos (mi xs) (fun r hr c hc => by
    obtain ⟨x, _, rfl⟩ := List.mem_map.1 hr
    exact Enc.one x c hc) k1 (by
    by_cases hxs : xs = []
    ·subst hxs; exact .inl rfl
    ·right
     have hs' := hs (List.length_pos_iff.2 hxs)
     obtain ⟨ab, ao, asp⟩ := a
     dsimp only at hs'
     subst hs'
     refine ⟨ab, ao, rfl, ?_, k2⟩
     have h0 : 0 < us.length := by
      rw [k1.1, n3 (mi xs), List.length_map]
      exact Nat.mul_pos (List.length_pos_iff.2 hxs) hpos
     have := ufn (k2 (us.length - 1) _ (List.getElem?_eq_getElem (by omega)))
     dsimp only at this
     show ao + us.length ≤ qs w ab
     omega) (by simp) (by simp) (by simp)
   rw [List.length_map] at this
   exact this
theorem ubs {l : List (Nat × TypeId × Nat)} {n : Nat} (h : jr P t l n = true) {H : Type} {enc : TypeId × Value → H} {w : World} {base : Nat} {spare : Nat → Bool} {held : Bool} {fuel : Nat} {cs : List Value} {x : DataW H × List MemPlace}
  (hx : DataW.trod enc P w base spare held fuel t cs = some x) : cs.length = n ∧ ∀ p ∈ l, ∃ m y, DataW.trod enc P w base spare held m p.2.1 ((cs.drop p.1).take p.2.2) = some y := by
 unfold jr at h
 split at h
 ·rename_i fs he
  simp only [Bool.and_eq_true, beq_iff_eq] at h
  obtain ⟨xs, m, _, _, hl, hlen, hf⟩ := DataW.trod_struct he hx
  refine ⟨by rw [hl, h.2], fun p hp => ?_⟩
  rw [← h.1] at hp
  obtain ⟨f, hfm, rfl⟩ := List.mem_map.1 hp
  obtain ⟨i, hi⟩ := List.getElem?_of_mem hfm
  have hi' : fs[i]? = some f := by simpa using hi
  have hlt : i < xs.length := by rw [hlen]; exact (Array.getElem?_eq_some_iff.1 hi').1
  exact ⟨m, xs[i], by rw [← List.getElem?_eq_getElem hlt]; exact hf i f hi'⟩
 ·cases h
theorem vn {l : List (Nat × TypeId × Nat)} {n : Nat} (h : jr P t l n = true) : P.cellsOf t = n ∧ ∃ fs, P.underlying t = some (.struct fs) := by
 unfold jr at h
 split at h
 ·rename_i fs he
  simp only [Bool.and_eq_true, beq_iff_eq] at h
  exact ⟨h.2, fs, he⟩
 ·cases h
/-- A struct of one field. -/
theorem OpensE.one {α : Type} [Enc α] [o : OpensE P e α] (h : jr P t [(0, e, Enc.n α)] (Enc.n α) = true) : OpensE P t α where
 n := (vn h).1
 op {H enc w base spare held fuel cs x} hx := by
  obtain ⟨hl, hp⟩ := ubs h hx
  obtain ⟨m, y, hy⟩ := hp _ (List.mem_cons_self ..)
  obtain ⟨a, ha⟩ := o.op hy
  dsimp only at ha
  rw [List.drop_zero, List.take_of_length_le (by omega)] at ha
  exact ⟨a, ha⟩
/-- A struct, field by field. -/
theorem OpensE.struct {α : Type} [Enc α] {l : List (Nat × TypeId × Nat)} (h : jr P t l (Enc.n α) = true)
  (b : ∀ (w : World) (cs : List Value), cs.length = Enc.n α → (∀ p ∈ l, ∀ (β : Type) (_ : Enc β), OpensE P p.2.1 β → ∃ a : β, Rs (j0 w) w (cells a) ((cs.drop p.1).take p.2.2)) → ∃ a : α, Rs (j0 w) w (cells a) cs) : OpensE P t α where
 n := (vn h).1
 op {H enc w base spare held fuel cs x} hx := by
  obtain ⟨hl, hp⟩ := ubs h hx
  exact b w cs hl fun p hpl β _ o => let ⟨_, _, hy⟩ := hp p hpl; o.op hy
theorem OpensE.chap {tI tL : TypeId} [oI : OpensE P tI Int] [oL : OpensE P tL (List (List ByteArray))] (h : jr P t [(0, tI, 1), (1, tL, 1)] 2 = true) : OpensE P t ar :=
 .struct (α := ar) h fun w cs hl hp => by
  obtain ⟨a, ha⟩ := hp (0, tI, 1) (by simp) Int inferInstance oI
  obtain ⟨b, hb⟩ := hp (1, tL, 1) (by simp) (List (List ByteArray)) inferInstance oL
  match cs, hl with
  | [u, v], _ => exact ⟨⟨a, b⟩, Rs.cons (Rs.single_inv ha) hb⟩
theorem OpensE.place {tI : TypeId} [oI : OpensE P tI Int] (h : jr P t [(0, tI, 1), (1, tI, 1), (2, tI, 1)] 3 = true) : OpensE P t PlaceD :=
 .struct (α := PlaceD) h fun w cs hl hp => by
  obtain ⟨a, ha⟩ := hp (0, tI, 1) (by simp) Int inferInstance oI
  obtain ⟨b, hb⟩ := hp (1, tI, 1) (by simp) Int inferInstance oI
  obtain ⟨c, hc⟩ := hp (2, tI, 1) (by simp) Int inferInstance oI
  match cs, hl with
  | [u, v, x], _ => exact ⟨⟨a, b, c⟩, Rs.cons (Rs.single_inv ha) (Rs.cons (Rs.single_inv hb) hc)⟩
/-- An argument that is a struct; a number. -/
theorem OpensE.arg {α : Type} [Enc α] [o : OpensE P t α] {l : List (Nat × TypeId × Nat)} {n : Nat} (h : jr P t l n = true) {H : Type} {enc : TypeId × Value → H} {w : World} {base : Nat} {spare : Nat → Bool} {held : Bool} {r : Reach} {b0 : Nat} {v : Value} {d : DataW H} {ps : List MemPlace}
  (hv : Value.okWide P w r b0 t v) (hd : DataW.Trod enc P w base spare held t v d ps) : ∃ a : α, R (j0 w) w (.agg (cells a)) v := by
 obtain ⟨fs, hs⟩ := (vn h).2
 obtain ⟨cs, rfl, _⟩ := okWide_struct hs hv
 obtain ⟨fuel, hf⟩ := hd
 obtain ⟨a, ha⟩ := o.op hf
 exact ⟨a, by simpa [Value.cells] using Rs.agg ha (Enc.one a)⟩
end
theorem ul7 {P : Program} {f : FuncId} {cs : List C} {v fv : Value} {fc : C} (hp : PureF (.fact fv fc) P f cs (.v v)) {w : World} {args : List Value} (hF : R (j0 w) w fc fv) (hr : Rs (j0 w) w cs args) :
  Calls P f args.toArray w fun e w' => e = .returned v ∧ Below w.heap.size w w' := by
 obtain ⟨E1, v1, g1⟩ := uew (uot w) hF
 refine (hp _ _ (jt _ _ _) E1 w args (hr.ev v1) g1).mono ?_
 rintro e w' ⟨r, x, E', G', nx', rfl, hev, hx, _, rfl, _⟩
 exact ⟨by rw [hx.v_inv], by have := hev.below; rw [v1.B] at this; exact this⟩
end Go.AB
namespace Go.AB
open Go Go.RowKit Go.ChangeShapes Go.WideShapes
open Go.AB.Enc (cells)
variable {P : Program} {o : Oper} {st : St}
theorem n_rem {xt yt : TypeId} {x y : Operand} {m n : Int} (ho : o.op = .binOp .rem xt x y yt) (hx : evC st x = .v (.int .i64 m)) (hy : evC st y = .v (.int .i64 n)) (hm : 0 ≤ m ∧ m ≤ 9223372036854775807) (hn : 0 < n) : NStep P o st (.v (.int .i64 (m % n))) :=
 kz ho hx hy (j6 (by have h1 := Int.emod_nonneg m (b := n) (by omega); have h2 := Int.mul_ediv_add_emod m n; have h3 := Int.mul_nonneg (Int.le_of_lt hn) (Int.ediv_nonneg hm.1 (Int.le_of_lt hn)); omega)) fun w => by
  have h1 : ¬ n = 0 := by omega
  have h2 : m.tmod n = m % n := Int.tmod_eq_emod_of_nonneg hm.1
  simp [eqGuard, binOp, Op.intDiv, h1, h2]
theorem zy {s d : TypeId} {x : Operand} {k : IntKind} {n : Int} (ho : o.op = .convert s d x) (hx : evC st x = .v (.int k n)) (hs : (P.underlying s).isSome = true) (hd : P.underlying d = some (.int .i64)) (hn : -9223372036854775808 ≤ n ∧ n ≤ 9223372036854775807) : NStep P o st (.v (.int .i64 n)) := fun E w a h => by
 have e1 := (hx ▸ h.ev x).v_inv
 refine ⟨_, .v (j6 hn), fun w' => ?_⟩
 have hk : P.intKind d = .i64 := by simp [Program.intKind, hd]
 have hw : IntKind.i64.wrap n = n := by rw [IntKind.wrap_i64]; omega
 have := run_convert_int (P := P) w' s d k n hs (by rw [hk]; exact hd)
 rw [hk, hw] at this
 simp [execOp, ho, e1, this]
theorem OpensE.argU8 {t : TypeId} (h : ul P t .u8 = true) {H : Type} {enc : TypeId × Value → H} {w : World} {base : Nat} {spare : Nat → Bool} {held : Bool} {r : Reach} {b0 : Nat} {v : Value} {d : DataW H} {ps : List MemPlace}
  (hv : Value.okWide P w r b0 t v) (hd : DataW.Trod enc P w base spare held t v d ps) : ∃ a : Int, R (j0 w) w (.v (.int .u8 a)) v := by
 obtain ⟨i, rfl, _, _, wi⟩ := open_int (uae h).1 hv hd
 exact ⟨i, .v (wfU8 wi)⟩
theorem ubg {n : Int} (h : (C.v (.int .u8 n)).fit) : 0 ≤ n ∧ n ≤ 255 := (okV_int.1 (fit_v.1 h) : _)
end Go.AB
namespace Go.AB
open Go Go.RowKit
open Go.AB.Enc (cells)
variable {P : Program} {o : Oper} {st : St}
theorem zv {xt yt : TypeId} {x y : Operand} {m n : Int} (ho : o.op = .binOp .mul xt x y yt) (hx : evC st x = .v (.int .i64 m)) (hy : evC st y = .v (.int .i64 n)) (hb : -9223372036854775808 ≤ m * n ∧ m * n ≤ 9223372036854775807) : NStep P o st (.v (.int .i64 (m * n))) :=
 kz ho hx hy (j6 hb) fun w => by
  have : IntKind.i64.wrap (m * n) = m * n := by rw [IntKind.wrap_i64]; omega
  simp [eqGuard, binOp, Op.intArith, this]
theorem zu {xt yt : TypeId} {x y : Operand} {m n : Int} (ho : o.op = .binOp .quo xt x y yt) (hx : evC st x = .v (.int .i64 m)) (hy : evC st y = .v (.int .i64 n)) (hm : 0 ≤ m ∧ m ≤ 9223372036854775807) (hn : 0 < n) : NStep P o st (.v (.int .i64 (m / n))) := by
 have h3 : 0 ≤ m / n := Int.ediv_nonneg hm.1 (by omega)
 have h4 : m / n ≤ m := Int.ediv_le_self _ hm.1
 exact kz ho hx hy (j6 (by omega)) fun w => by
  have h1 : ¬ n = 0 := by omega
  have h2 : m.tdiv n = m / n := Int.tdiv_eq_ediv_of_nonneg hm.1
  have h5 : IntKind.i64.wrap (m / n) = m / n := by rw [IntKind.wrap_i64]; omega
  simp [eqGuard, binOp, Op.intDiv, h1, h2, h5]
theorem uhl {n : Nat} (h : n ≤ 62) : (2 : Int) ^ n ≤ 4611686018427387904 := by
 have : 2 ^ n ≤ 2 ^ 62 := Nat.pow_le_pow_right (by omega) h
 have h2 : ((2 ^ n : Nat) : Int) = (2 : Int) ^ n := by norm_cast
 rw [← h2]
 have h3 : (2 : Nat) ^ 62 = 4611686018427387904 := by decide
 omega
/-- one, shifted -/
theorem udi {xt yt : TypeId} {x y : Operand} {n : Nat} (ho : o.op = .binOp .shl xt x y yt) (hx : evC st x = .v (.int .i64 1)) (hy : evC st y = .v (.int .i64 (n : Int))) (hn : n ≤ 62) : NStep P o st (.v (.int .i64 ((2 ^ n : Nat) : Int))) := by
 have h0 := uhl hn
 have h2 : ((2 ^ n : Nat) : Int) = (2 : Int) ^ n := by norm_cast
 have h1 : 0 ≤ ((2 ^ n : Nat) : Int) := Int.natCast_nonneg _
 exact kz ho hx hy (j6 (by omega)) fun w => by
  have e1 : ¬ ((n : Int) < 0) := by omega
  have e2 : min (n : Int).toNat IntKind.i64.bits = n := by rw [Int.toNat_natCast]; show min n 64 = n; omega
  have e3 : IntKind.i64.wrap (1 * 2 ^ n) = ((2 ^ n : Nat) : Int) := by rw [Int.one_mul, ← h2, IntKind.wrap_i64]; omega
  simp only [eqGuard, binOp, Op.shift, e1, if_false, e2, e3]
  rfl
/-- a number that is not below 0, shifted back -/
theorem zr {xt yt : TypeId} {x y : Operand} {k : IntKind} {m n : Nat} (ho : o.op = .binOp .shr xt x y yt) (hx : evC st x = .v (.int k (m : Int))) (hy : evC st y = .v (.int .i64 (n : Int))) (hn : n ≤ k.bits) (hm : (m : Int) ≤ hiK k) (hk : loK k ≤ 0) : NStep P o st (.v (.int k ((m / 2 ^ n : Nat) : Int))) := by
 have h4 : m / 2 ^ n ≤ m := Nat.div_le_self _ _
 exact n_int' ho hx hy (okV_int.2 (by obtain ⟨q, hq⟩ : ∃ q, m / 2 ^ n = q := ⟨_, rfl⟩; rw [hq] at h4 ⊢; omega)) fun w => by
  have e1 : ¬ ((n : Int) < 0) := by omega
  have e2 : min (n : Int).toNat k.bits = n := by rw [Int.toNat_natCast]; omega
  have e3 : (m : Int).fdiv (2 ^ n) = ((m / 2 ^ n : Nat) : Int) := by
   have h2 : ((2 ^ n : Nat) : Int) = (2 : Int) ^ n := by norm_cast
   rw [← h2, Int.fdiv_eq_ediv_of_nonneg _ (Int.natCast_nonneg _)]
   norm_cast
  simp only [eqGuard, binOp, Op.shift, e1, if_false, e2, e3]
  rfl
where
 n_int' {op : BinOp} {xt yt : TypeId} {x y : Operand} {k k' : IntKind} {m n : Int} {r : Value} (ho : o.op = .binOp op xt x y yt) (hx : evC st x = .v (.int k m)) (hy : evC st y = .v (.int k' n))
  (h1 : okV r = true) (h : ∀ w, (do eqGuard op xt x y (.int k m) (.int k' n); binOp op xt (.int k m) (.int k' n)).run P w = .ok r w) : NStep P o st (.v r) := fun E w a hs => by
  have e1 := (hx ▸ hs.ev x).v_inv
  have e2 := (hy ▸ hs.ev y).v_inv
  refine ⟨r, .v h1, fun w' => ?_⟩
  have := h w'
  simp only [execOp, ho, e1, e2, Sem.run_bind] at this ⊢
  rw [this]
  rfl
/-- the last bit -/
theorem zz {xt yt : TypeId} {x y : Operand} {k : IntKind} {m : Nat} (ho : o.op = .binOp .and xt x y yt) (hx : evC st x = .v (.int k (m : Int))) (hy : evC st y = .v (.int k 1)) (hm : m < 2 ^ k.bits) (hb : 2 ≤ k.bits) : NStep P o st (.v (.int k ((m % 2 : Nat) : Int))) := by
 have h2 : m % 2 < 2 := Nat.mod_lt _ (by omega)
 exact kz ho hx hy (okV_int.2 (by cases k <;> simp only [loK, hiK] <;> omega)) fun w => by
  have e1 : (BitVec.ofInt k.bits (m : Int) &&& BitVec.ofInt k.bits 1).toNat = m % 2 := by
   have q1 : (BitVec.ofInt k.bits (m : Int)).toNat = m := by
    rw [show BitVec.ofInt k.bits (m : Int) = BitVec.ofNat k.bits m from BitVec.ofInt_natCast .., BitVec.toNat_ofNat, Nat.mod_eq_of_lt hm]
   have q2 : (BitVec.ofInt k.bits 1).toNat = 1 := by
    rw [show BitVec.ofInt k.bits 1 = BitVec.ofNat k.bits 1 from BitVec.ofInt_natCast k.bits 1, BitVec.toNat_ofNat, Nat.mod_eq_of_lt]
    exact Nat.one_lt_two_pow (by omega)
   rw [BitVec.toNat_and, q1, q2, Nat.and_one_is_mod]
  have e2 : k.wrap ((m % 2 : Nat) : Int) = ((m % 2 : Nat) : Int) := by
   have : m % 2 = 0 ∨ m % 2 = 1 := by omega
   rcases this with h | h <;> rw [h] <;> cases k <;> decide
  simp only [eqGuard, binOp, Op.intBits, e1, e2]
  simp
end Go.AB
namespace Go.AB
open Go Go.RowKit
open Go.AB.Enc (cells)
open Go.PB (ar ai PlaceD az bf ba bj am af ci bi cy c6)
theorem ubw {t : ai} (ht : dp t = true) (k : Nat) : fq t k ≤ 60 := by
 obtain ⟨_, h2, h3⟩ := mb ht
 have key : ∀ j, j ≤ t.length → fq t j ≤ j * 10 := by
  intro j
  induction j with
  | zero => intro _; rw [ubv]; exact Nat.zero_le _
  | succ j ih =>
   intro hj
   have hc : t[j]? = some t[j] := List.getElem?_eq_getElem (by omega)
   rw [tf hc]
   have := (h3 _ (List.mem_of_getElem? hc)).2.1
   have := ih (by omega)
   omega
 by_cases q : k ≤ t.length
 ·have := key k q; omega
 have h1 := key t.length (Nat.le_refl _)
 have e : fq t k = fq t t.length := by
  unfold fq
  rw [List.take_of_length_le (show t.length ≤ k by omega), List.take_of_length_le (Nat.le_refl _)]
 omega
instance decLtW : ∀ a b : List Int, Decidable (ltW a b)
 | [], _ => isFalse (by simp [ltW])
 | _ :: _, [] => isFalse (by simp [ltW])
 | x :: a, y :: b => by
  have := decLtW a b
  unfold ltW
  exact inferInstance
end Go.AB
namespace Go.Proofs.YtbbdginipiljdaaDoor
set_option maxRecDepth 10000
open Go.RowKit Go.AB
open Go.AB.Enc (cells)
open Go.PB (ar ai PlaceD az bf ba bj am af ci bi cy c6)
theorem rn (n lo hi : Int) : Pure Tryd.prog 50 [.v (.int .i64 n), .v (.int .i64 lo), .v (.int .i64 hi)] (.v (.bool (inB n lo hi))) := by
 refine cz Tryd.func50 rfl (fun m => .v) fun G nx => ?_
 simp only [Tryd.ntmps50, List.length_cons, List.length_nil, Nat.reduceAdd, Nat.reduceSub]
 refine br fun hlt => ?_
 dsimp only at hlt
 refine yS fun _ K1 => ?_
 refine yR ?_
 refine yA rfl rfl ?_
 refine yN ?_
 dsimp only [St.put]
 refine K1 _ ?_
 refine yS fun _ K2 => ?_
 refine yR ?_
 refine yM rfl rfl ?_
 refine yM rfl rfl ?_
 refine aa rfl (ov rfl rfl rfl) ?_
 refine eu (fun hs => ?_) (fun hs => ?_)
 ·try replace hs := of_decide_eq_true hs
  refine yM rfl rfl ?_
  refine yM rfl rfl ?_
  refine yM rfl rfl ?_
  refine aa rfl (t8 rfl rfl rfl) ?_
  refine aa rfl (bu rfl rfl (by constructor)) ?_
  refine yA rfl rfl ?_
  refine yN ?_
  dsimp only [St.put]
  refine K2 _ ?_
  refine aq ?_
  refine bg rfl (by constructor) zN zS ?_
  exact vb (by simp [inB, hs]; try omega)
 try replace hs := of_decide_eq_false hs
 refine yM rfl rfl ?_
 refine yK rfl ?_
 refine yK rfl ?_
 refine yK rfl ?_
 refine aa rfl (cm rfl rfl (by constructor)) ?_
 refine yA rfl rfl ?_
 refine yN ?_
 dsimp only [St.put]
 refine K2 _ ?_
 refine aq ?_
 refine bg rfl (by constructor) zN zS ?_
 exact vb (by simp [inB, hs]; try omega)
theorem ujr (t : ai) (ht : dp t = true) : Pure Tryd.prog 78 [gl t] (.v (.int .i64 (ms t : Int))) := by
 refine cz Tryd.func78 rfl (fun m => .v) fun G nx => ?_
 simp only [Tryd.ntmps78, List.length_cons, List.length_nil, Nat.reduceAdd, Nat.reduceSub]
 refine br fun hlt => ?_
 dsimp only at hlt
 obtain ⟨hl1, hl2, hl3⟩ := mb ht
 refine yS fun _ K1 => ?_
 refine yR ?_
 try dsimp only [St.put]
 refine yB rfl rfl rfl ?_
 refine yA rfl rfl ?_
 refine yN ?_
 dsimp only [St.put]
 refine K1 _ ?_
 refine yS fun _ K2 => ?_
 refine yR ?_
 refine yA rfl rfl ?_
 refine yN ?_
 dsimp only [St.put]
 refine K2 _ ?_
 refine yS fun _ K3 => ?_
 refine yS fun _ K4 => ?_
 refine yR ?_
 refine yA rfl rfl ?_
 refine yN ?_
 dsimp only [St.put]
 refine K4 _ ?_
 refine bh ?_
 refine cr 5 ?_
 refine zQ ?_
 refine dl (G) zX ?_
 dsimp only
 refine dj (X := Nat) (fun k => k ≤ t.length) (fun k => t.length - k) (fun k => [(3, .v (.int .i64 ((fq t k : Nat) : Int))), (4, .v (.int .i64 (k : Int)))]) (fun k G' => G') 0 rfl ?_ ?_ (fun _ _ h => h) ?_ ?_ ?_
 ·exact Nat.zero_le _
 ·exact zF
 ·rintro k hI
  exact zL
 ·exact fun _ _ _ _ h => .inl h
 rintro k hI
 dsimp only at hI ⊢
 refine yS fun _ K5 => ?_
 refine yS fun _ K6 => ?_
 refine yR ?_
 refine yM rfl rfl ?_
 refine yF rfl rfl rfl rfl ?_
 refine yL rfl rfl rfl ?_
 refine aa rfl (bl rfl rfl (List.length_map _)) ?_
 refine aa rfl (cn rfl rfl rfl) ?_
 refine yN ?_
 dsimp only [St.put]
 refine K6 _ ?_
 refine av rfl (fun hc => ?_) (fun hc => ?_)
 ·replace hc := of_decide_eq_true hc
  obtain ⟨c, hk⟩ : ∃ x, t[k]? = some x := dm (by omega)
  have hcl := hl3 c (fw hk)
  have hst := ubw ht k
  refine ay ?_
  refine K5 _ ?_
  refine yS fun _ K7 => ?_
  refine bh ?_
  refine yR ?_
  refine yM rfl rfl ?_
  refine yF rfl rfl rfl rfl ?_
  refine yL rfl rfl rfl ?_
  refine yM rfl rfl ?_
  refine aa rfl (bz rfl rfl rfl rfl (bw (by assumption)) (Enc.len _)) ?_
  refine yF rfl rfl rfl rfl ?_
  refine yL rfl rfl rfl ?_
  refine aa rfl (bl rfl rfl (List.length_map _)) ?_
  refine aa rfl (ce rfl rfl rfl (by omega)) ?_
  refine yA rfl rfl ?_
  refine yN ?_
  dsimp only [St.put]
  refine K7 _ ?_
  refine yR ?_
  refine yM rfl rfl ?_
  refine aa rfl (ce rfl rfl rfl (by omega)) ?_
  refine yA rfl rfl ?_
  refine yN ?_
  dsimp only [St.put]
  have e := tf hk
  rw [show ((fq t k : Nat) : Int) + (c.lines.length : Int) = ((fq t (k + 1) : Nat) : Int) by rw [e]; rfl]
  exact ⟨k + 1, by omega, by omega, ⟨⟨rfl, rfl⟩, zF, zB, zN, zX⟩⟩
 replace hc := of_decide_eq_false hc
 obtain rfl : k = t.length := by omega
 refine dh ?_
 refine K3 _ ?_
 refine yS fun _ K8 => ?_
 refine yR ?_
 refine yM rfl rfl ?_
 refine yA rfl rfl ?_
 refine yN ?_
 dsimp only [St.put]
 refine K8 _ ?_
 refine aq ?_
 refine bg rfl (by constructor) zN zS ?_
 rfl
theorem ucl (t : ai) (q : PlaceD) (ht : dp t = true) (hq : fp t q = true) : Pure Tryd.prog 70 [gl t, val q] (.v (.int .i64 (ql t q))) := by
 refine cz Tryd.func70 rfl (fun m => .v) fun G nx => ?_
 simp only [Tryd.ntmps70, List.length_cons, List.length_nil, Nat.reduceAdd, Nat.reduceSub]
 refine br fun hlt => ?_
 dsimp only at hlt
 obtain ⟨hl1, hl2, hl3⟩ := mb ht
 obtain ⟨kc, kn, kw, c0, l0, hqe, hkc, hkn, _⟩ := ucs hq
 have hkcl := (List.getElem?_eq_some_iff.1 hkc).1
 have hknl := (List.getElem?_eq_some_iff.1 hkn).1
 have hc0 := (hl3 c0 (fw hkc)).2.1
 subst hqe
 refine yS fun _ K1 => ?_
 refine yR ?_
 try dsimp only [St.put]
 refine yB rfl rfl rfl ?_
 try dsimp only [St.put]
 refine yB rfl rfl rfl ?_
 refine yA rfl rfl ?_
 refine yN ?_
 dsimp only [St.put]
 refine K1 _ ?_
 refine yS fun _ K2 => ?_
 refine yR ?_
 refine yF rfl rfl rfl rfl ?_
 refine yL rfl rfl rfl ?_
 refine yA rfl rfl ?_
 refine yN ?_
 dsimp only [St.put]
 refine K2 _ ?_
 refine yS fun _ K3 => ?_
 refine yS fun _ K4 => ?_
 refine yR ?_
 refine yA rfl rfl ?_
 refine yN ?_
 dsimp only [St.put]
 refine K4 _ ?_
 refine bh ?_
 refine cr 7 ?_
 refine zQ ?_
 refine dl (G) zX ?_
 dsimp only
 refine dj (X := Nat) (fun k => k ≤ kc) (fun k => kc - k) (fun k => [(5, .v (.int .i64 ((kn : Int) + ((fq t k : Nat) : Int)))), (6, .v (.int .i64 (k : Int)))]) (fun k G' => G') 0 rfl ?_ ?_ (fun _ _ h => h) ?_ ?_ ?_
 ·exact Nat.zero_le _
 ·exact zF
 ·rintro k hI
  exact zL
 ·exact fun _ _ _ _ h => .inl h
 rintro k hI
 dsimp only at hI ⊢
 refine yS fun _ K5 => ?_
 refine yS fun _ K6 => ?_
 refine yR ?_
 refine yM rfl rfl ?_
 refine yF rfl rfl rfl rfl ?_
 refine yL rfl rfl rfl ?_
 refine aa rfl (cn rfl rfl rfl) ?_
 refine yN ?_
 dsimp only [St.put]
 refine K6 _ ?_
 refine av rfl (fun hc => ?_) (fun hc => ?_)
 ·replace hc := of_decide_eq_true hc
  obtain ⟨c, hk⟩ : ∃ x, t[k]? = some x := dm (by omega)
  have hcl := hl3 c (fw hk)
  have hst := ubw ht k
  refine ay ?_
  refine K5 _ ?_
  refine yS fun _ K7 => ?_
  refine bh ?_
  refine yR ?_
  refine yM rfl rfl ?_
  refine yF rfl rfl rfl rfl ?_
  refine yL rfl rfl rfl ?_
  refine yM rfl rfl ?_
  refine aa rfl (bz rfl rfl rfl rfl (bw (by assumption)) (Enc.len _)) ?_
  refine yF rfl rfl rfl rfl ?_
  refine yL rfl rfl rfl ?_
  refine aa rfl (bl rfl rfl (List.length_map _)) ?_
  refine aa rfl (ce rfl rfl rfl (by omega)) ?_
  refine yA rfl rfl ?_
  refine yN ?_
  dsimp only [St.put]
  refine K7 _ ?_
  refine yR ?_
  refine yM rfl rfl ?_
  refine aa rfl (ce rfl rfl rfl (by omega)) ?_
  refine yA rfl rfl ?_
  refine yN ?_
  dsimp only [St.put]
  have e := tf hk
  rw [show (kn : Int) + ((fq t k : Nat) : Int) + (c.lines.length : Int) = (kn : Int) + ((fq t (k + 1) : Nat) : Int) by rw [e, Int.natCast_add]; omega]
  exact ⟨k + 1, by omega, by omega, ⟨⟨rfl, rfl⟩, zF, zB, zN, zX⟩⟩
 replace hc := of_decide_eq_false hc
 obtain rfl : k = kc := by omega
 refine dh ?_
 refine K3 _ ?_
 refine yS fun _ K8 => ?_
 refine yR ?_
 refine yM rfl rfl ?_
 refine yA rfl rfl ?_
 refine yN ?_
 dsimp only [St.put]
 refine K8 _ ?_
 refine aq ?_
 refine bg rfl (by constructor) zN zS ?_
 exact vi (by unfold ql; rw [Int.toNat_natCast])
theorem uck (a b : List Int) (ha : a.length ≤ 1000) : Pure Tryd.prog 28 [lst a, lst b] (.v (.bool (decide (a = b)))) := by
 refine cz Tryd.func28 rfl (fun m => .v) fun G nx => ?_
 simp only [Tryd.ntmps28, List.length_cons, List.length_nil, Nat.reduceAdd, Nat.reduceSub]
 refine br fun hlt => ?_
 dsimp only at hlt
 refine kp 1 (fun hfb => ?_)
 have hb := (fit_lst.1 hfb).1
 refine yS fun _ K1 => ?_
 refine yR ?_
 refine yA rfl rfl ?_
 refine yN ?_
 dsimp only [St.put]
 refine K1 _ ?_
 refine yS fun _ K2 => ?_
 refine yS fun _ K3 => ?_
 refine yR ?_
 refine yM rfl rfl ?_
 refine aa rfl (bl rfl rfl (List.length_map _)) ?_
 refine yM rfl rfl ?_
 refine aa rfl (bl rfl rfl (List.length_map _)) ?_
 refine aa rfl (fu rfl rfl rfl) ?_
 refine yN ?_
 dsimp only [St.put]
 refine K3 _ ?_
 refine av rfl (fun hc => ?_) (fun hc => ?_)
 ·try replace hc := of_decide_eq_true hc
  refine yS fun _ K4 => ?_
  refine yR ?_
  refine yA rfl rfl ?_
  refine yN ?_
  dsimp only [St.put]
  refine K4 _ ?_
  refine aq ?_
  refine bg rfl (by constructor) zN zS ?_
  exact vb (by
   have : a ≠ b := fun e => by subst e; simp at hc
   simp [this])
 have hl : a.length = b.length := by
  have := ii hc
  omega
 refine ay ?_
 refine K2 _ ?_
 refine yS fun _ K5 => ?_
 refine yS fun _ K6 => ?_
 refine yR ?_
 refine yA rfl rfl ?_
 refine yN ?_
 dsimp only [St.put]
 refine K6 _ ?_
 refine bh ?_
 refine cr 6 ?_
 refine zQ ?_
 refine dl (G) zX ?_
 dsimp only
 refine dj (X := Nat) (fun k => k ≤ a.length ∧ a.take k = b.take k) (fun k => a.length - k) (fun k => [(5, .v (.int .i64 (k : Int)))]) (fun k G' => G') 0 rfl ?_ ?_ (fun _ _ h => h) ?_ ?_ ?_
 ·exact ⟨Nat.zero_le _, by simp⟩
 ·exact zF
 ·rintro k hI
  exact zL
 ·exact fun _ _ _ _ h => .inl h
 rintro k hI
 dsimp only at hI ⊢
 refine yS fun _ K7 => ?_
 refine yS fun _ K8 => ?_
 refine yR ?_
 refine yM rfl rfl ?_
 refine yM rfl rfl ?_
 refine aa rfl (bl rfl rfl (List.length_map _)) ?_
 refine aa rfl (cn rfl rfl rfl) ?_
 refine yN ?_
 dsimp only [St.put]
 refine K8 _ ?_
 refine av rfl (fun hc => ?_) (fun hc => ?_)
 ·replace hc := of_decide_eq_true hc
  obtain ⟨x, hx⟩ : ∃ x, a[k]? = some x := dm (by omega)
  obtain ⟨y, hy⟩ : ∃ y, b[k]? = some y := dm (by omega)
  refine ay ?_
  refine K7 _ ?_
  refine yS fun _ K9 => ?_
  refine bh ?_
  refine yS fun _ K10 => ?_
  refine gt [(0, none), (1, none), (2, none), (3, none), (4, none), (5, none), (6, none), (7, none), (8, none)] (fun i => [].contains i) (fun i => [].contains i) (fun i => [0, 1, 2, 4, 5, 6, 8].contains i) [] (by kernel_rfl) (by kernel_rfl) ?_
  refine xM rfl rfl rfl rfl rfl ?_
  refine xM rfl rfl rfl rfl rfl ?_
  try dsimp only [St.put]
  refine ah rfl rfl rfl rfl (bz rfl rfl rfl rfl (bw (by assumption)) (Enc.len _)) ?_
  try dsimp only [St.put]
  refine aw rfl rfl rfl rfl (ca rfl rfl) ?_
  refine xM rfl rfl rfl rfl rfl ?_
  refine xM rfl rfl rfl rfl rfl ?_
  try dsimp only [St.put]
  refine ah rfl rfl rfl rfl (bz rfl rfl rfl rfl (bw (by assumption)) (Enc.len _)) ?_
  try dsimp only [St.put]
  refine aw rfl rfl rfl rfl (ca rfl rfl) ?_
  refine ah rfl rfl rfl rfl (fu rfl rfl rfl) ?_
  refine cg ?_
  dsimp only [St.put]
  refine K10 _ ?_
  refine av rfl (fun hc => ?_) (fun hc => ?_)
  ·have hxy := j8 hc
   refine yS fun _ K11 => ?_
   refine yR ?_
   refine yA rfl rfl ?_
   refine yN ?_
   dsimp only [St.put]
   refine K11 _ ?_
   refine aq ?_
   refine bg rfl (by constructor) zN zS ?_
   exact vb (by simp [udg hx hy hxy])
  have hxy := ii hc
  refine ay ?_
  refine K9 _ ?_
  refine yR ?_
  refine yM rfl rfl ?_
  refine aa rfl (ce rfl rfl rfl (by omega)) ?_
  refine yA rfl rfl ?_
  refine yN ?_
  dsimp only [St.put]
  exact ⟨k + 1, by omega, ⟨by omega, ubk hI.2 hx (hxy ▸ hy)⟩, ⟨⟨rfl, rfl⟩, zF, zB, zN, zX⟩⟩
 replace hc := of_decide_eq_false hc
 refine dh ?_
 refine K5 _ ?_
 refine yS fun _ K12 => ?_
 refine yR ?_
 refine yA rfl rfl ?_
 refine yN ?_
 dsimp only [St.put]
 refine K12 _ ?_
 refine aq ?_
 refine bg rfl (by constructor) zN zS ?_
 exact vb (by
  have h1 := hI.2
  rw [gm (by omega), gm (by omega)] at h1
  simp [h1])
end Go.Proofs.YtbbdginipiljdaaDoor
namespace Go.AB
open Go Go.RowKit
open Go.AB.Enc (cells)
open Go.PB (ar ai PlaceD az bf ba bj am af ci bi cy c6)
theorem bit_eq {s k : Nat} : (((s / 2 ^ k % 2 : Nat) : Int) = 1) ↔ s.testBit k = true := by
 rw [Nat.testBit_eq_decide_div_mod_eq, decide_eq_true_eq]
 omega
end Go.AB
namespace Go.Proofs.YtbbdginipiljdaaDoor
set_option maxRecDepth 10000
open Go.RowKit Go.AB
open Go.AB.Enc (cells)
open Go.PB (ar ai PlaceD az bf ba bj am af ci bi cy c6)
end Go.Proofs.YtbbdginipiljdaaDoor
namespace Go.AB
open Go Go.RowKit
open Go.AB.Enc (cells)
open Go.PB (ar ai PlaceD az bf ba bj am af ci bi cy c6)
theorem ubo {l : List am} {g : am → Nat} (k : Nat) : dt (l.take k) g ≤ dt l g := by
 have h : dt l g = dt (l.take k) g + dt (l.drop k) g := by
  unfold dt
  rw [← List.sum_append, ← List.map_append, List.take_append_drop]
 omega
theorem ulg {p : af} {b : Bool} {i : Nat} {r : bj} (h : (du p b)[i]? = some r) : kf p b i = r.miss := by unfold kf; rw [h]
theorem umy (R : Nat → Int) (S : Nat → Bool) (k : Nat) : fR R S (k + 1) = fR R S k + bif S k then R k else 0 := rfl
theorem ue1 (p : af) (C : Nat → Int) (S : Nat → Bool) (k : Nat) : fC p C S (k + 1) = fC p C S k + bif (bn p).hit S k then 0 else C k := rfl
end Go.AB
namespace Go.Proofs.YtbbdginipiljdaaDoor
set_option maxRecDepth 10000
open Go.RowKit Go.AB
open Go.AB.Enc (cells)
open Go.PB (ar ai PlaceD az bf ba bj am af ci bi cy c6)
end Go.Proofs.YtbbdginipiljdaaDoor
namespace Go.Proofs.YtbbdginipiljdaaDoor
set_option maxRecDepth 10000
open Go Go.RowKit Go.AB
open Go.AB.Enc (cells)
open Go.PB (ar ai PlaceD az bf ba bj am af ci bi cy c6)
theorem uir (p : af) : Pure Tryd.prog 151 [val p] (lst p.firsts) := by
 refine cz Tryd.func151 rfl (fun m => (bp _ _)) fun G nx => ?_
 simp only [Tryd.ntmps151, List.length_cons, List.length_nil, Nat.reduceAdd, Nat.reduceSub]
 refine br fun hlt => ?_
 dsimp only at hlt
 refine yS fun _ K1 => ?_
 refine yR ?_
 try dsimp only [St.put]
 refine yB rfl rfl rfl ?_
 refine yA rfl rfl ?_
 refine yN ?_
 dsimp only [St.put]
 refine K1 _ ?_
 refine yS fun _ K2 => ?_
 refine yR ?_
 refine yF rfl rfl rfl rfl ?_
 refine yL rfl rfl rfl ?_
 refine yA rfl rfl ?_
 refine yN ?_
 dsimp only [St.put]
 refine K2 _ ?_
 refine aq ?_
 refine bg rfl (by constructor) zN zS ?_
 rfl
theorem uiq (x : am) : Pure Tryd.prog 152 [val x] (.v (.int .i64 x.fst)) := by
 refine cz Tryd.func152 rfl (fun m => .v) fun G nx => ?_
 simp only [Tryd.ntmps152, List.length_cons, List.length_nil, Nat.reduceAdd, Nat.reduceSub]
 refine br fun hlt => ?_
 dsimp only at hlt
 refine yS fun _ K1 => ?_
 refine yR ?_
 try dsimp only [St.put]
 refine yB rfl rfl rfl ?_
 refine yA rfl rfl ?_
 refine yN ?_
 dsimp only [St.put]
 refine K1 _ ?_
 refine yS fun _ K2 => ?_
 refine yR ?_
 refine yF rfl rfl rfl rfl ?_
 refine yL rfl rfl rfl ?_
 refine yA rfl rfl ?_
 refine yN ?_
 dsimp only [St.put]
 refine K2 _ ?_
 refine aq ?_
 refine bg rfl (by constructor) zN zS ?_
 rfl
theorem uip (x : am) : Pure Tryd.prog 153 [val x] (lst x.found) := by
 refine cz Tryd.func153 rfl (fun m => (bp _ _)) fun G nx => ?_
 simp only [Tryd.ntmps153, List.length_cons, List.length_nil, Nat.reduceAdd, Nat.reduceSub]
 refine br fun hlt => ?_
 dsimp only at hlt
 refine yS fun _ K1 => ?_
 refine yR ?_
 try dsimp only [St.put]
 refine yB rfl rfl rfl ?_
 refine yA rfl rfl ?_
 refine yN ?_
 dsimp only [St.put]
 refine K1 _ ?_
 refine yS fun _ K2 => ?_
 refine yR ?_
 refine yF rfl rfl rfl rfl ?_
 refine yL rfl rfl rfl ?_
 refine yA rfl rfl ?_
 refine yN ?_
 dsimp only [St.put]
 refine K2 _ ?_
 refine aq ?_
 refine bg rfl (by constructor) zN zS ?_
 rfl
theorem uio (p : af) : Pure Tryd.prog 154 [val p] (lst p.seconds) := by
 refine cz Tryd.func154 rfl (fun m => (bp _ _)) fun G nx => ?_
 simp only [Tryd.ntmps154, List.length_cons, List.length_nil, Nat.reduceAdd, Nat.reduceSub]
 refine br fun hlt => ?_
 dsimp only at hlt
 refine yS fun _ K1 => ?_
 refine yR ?_
 try dsimp only [St.put]
 refine yB rfl rfl rfl ?_
 refine yA rfl rfl ?_
 refine yN ?_
 dsimp only [St.put]
 refine K1 _ ?_
 refine yS fun _ K2 => ?_
 refine yR ?_
 refine yF rfl rfl rfl rfl ?_
 refine yL rfl rfl rfl ?_
 refine yA rfl rfl ?_
 refine yN ?_
 dsimp only [St.put]
 refine K2 _ ?_
 refine aq ?_
 refine bg rfl (by constructor) zN zS ?_
 rfl
theorem uin (x : am) : Pure Tryd.prog 155 [val x] (.v (.int .i64 x.snd)) := by
 refine cz Tryd.func155 rfl (fun m => .v) fun G nx => ?_
 simp only [Tryd.ntmps155, List.length_cons, List.length_nil, Nat.reduceAdd, Nat.reduceSub]
 refine br fun hlt => ?_
 dsimp only at hlt
 refine yS fun _ K1 => ?_
 refine yR ?_
 try dsimp only [St.put]
 refine yB rfl rfl rfl ?_
 refine yA rfl rfl ?_
 refine yN ?_
 dsimp only [St.put]
 refine K1 _ ?_
 refine yS fun _ K2 => ?_
 refine yR ?_
 refine yF rfl rfl rfl rfl ?_
 refine yL rfl rfl rfl ?_
 refine yA rfl rfl ?_
 refine yN ?_
 dsimp only [St.put]
 refine K2 _ ?_
 refine aq ?_
 refine bg rfl (by constructor) zN zS ?_
 rfl
theorem uim (x : am) : Pure Tryd.prog 156 [val x] (lst x.well) := by
 refine cz Tryd.func156 rfl (fun m => (bp _ _)) fun G nx => ?_
 simp only [Tryd.ntmps156, List.length_cons, List.length_nil, Nat.reduceAdd, Nat.reduceSub]
 refine br fun hlt => ?_
 dsimp only at hlt
 refine yS fun _ K1 => ?_
 refine yR ?_
 try dsimp only [St.put]
 refine yB rfl rfl rfl ?_
 refine yA rfl rfl ?_
 refine yN ?_
 dsimp only [St.put]
 refine K1 _ ?_
 refine yS fun _ K2 => ?_
 refine yR ?_
 refine yF rfl rfl rfl rfl ?_
 refine yL rfl rfl rfl ?_
 refine yA rfl rfl ?_
 refine yN ?_
 dsimp only [St.put]
 refine K2 _ ?_
 refine aq ?_
 refine bg rfl (by constructor) zN zS ?_
 rfl
def sRd (b : Bool) : FuncId := bif b then 154 else 151
def sFt (b : Bool) : FuncId := bif b then 155 else 152
def sFd (b : Bool) : FuncId := bif b then 156 else 153
instance (b : Bool) : Fun Tryd.prog (sRd b) := by
 cases b
 ·exact inferInstanceAs (Fun Tryd.prog 151)
 exact inferInstanceAs (Fun Tryd.prog 154)
instance (b : Bool) : Fun Tryd.prog (sFt b) := by
 cases b
 ·exact inferInstanceAs (Fun Tryd.prog 152)
 exact inferInstanceAs (Fun Tryd.prog 155)
instance (b : Bool) : Fun Tryd.prog (sFd b) := by
 cases b
 ·exact inferInstanceAs (Fun Tryd.prog 153)
 exact inferInstanceAs (Fun Tryd.prog 156)
theorem pc (b : Bool) (p : af) : Pure Tryd.prog (sRd b) [val p] (lst (du p b)) := by
 cases b
 ·exact uir p
 exact uio p
theorem yw (b : Bool) (x : am) : Pure Tryd.prog (sFt b) [val x] (.v (.int .i64 (er b x))) := by
 cases b
 ·exact uiq x
 exact uin x
theorem ub7 (b : Bool) (x : am) : Pure Tryd.prog (sFd b) [val x] (lst (dc b x)) := by
 cases b
 ·exact uip x
 exact uim x
abbrev oh (b : Bool) : List C := [.fn (.func (sRd b)) [], .fn (.func (sFt b)) [], .fn (.func (sFd b)) []]
abbrev sidL : List C := oh false ++ oh true
abbrev fb : GObj := .fact (.pointer (some ⟨0, 0, none⟩)) (.elem sidL)
abbrev ky (p : af) : List C := [lst p.text, lst p.firsts, lst p.seconds, lst p.pages, lst (p.pages.map fun x => (fa p.text x : Int)), lst (p.pages.map (d8 p.text)), lst (p.pages.map (da p.text))]
theorem vu : ∀ {k : Nat}, k < 2 → (sidL.drop (k * 3)).take 3 = oh (decide (k = 1))
 | 0, _ => rfl
 | 1, _ => rfl
 | k + 2, h => by omega
set_option maxHeartbeats 1000000 in
theorem ucu (p : af) (b : Bool) (i : Nat) (h : fg p) (hi : i < (du p b).length) : Pure Tryd.prog 49 [.elem (ky p), .agg (oh b), .v (.int .i64 (i : Int))] (.tup [.v (.int .i64 (lk p b i)), .v (.int .i64 (mw p b i))]) := by
 refine cz Tryd.func49 rfl (fun m => .tup (bx .v (bx .v c7))) fun G nx => ?_
 simp only [Tryd.ntmps49, List.length_cons, List.length_nil, Nat.reduceAdd, Nat.reduceSub]
 refine br fun hlt => ?_
 dsimp only at hlt
 have hown := uc2 h b (i : Int)
 have hrd := uch h b (i : Int)
 have hal := qz h.text
 have hnp := h.np
 have hmb := udq h b i
 obtain ⟨r, hr⟩ : ∃ r, (du p b)[i]? = some r := dm hi
 have hmr := ulg hr
 refine yS fun _ K1 => ?_
 refine yR ?_
 try dsimp only [St.put]
 refine yB rfl rfl rfl ?_
 refine yA rfl rfl ?_
 refine yA rfl rfl ?_
 refine yN ?_
 dsimp only [St.put]
 refine K1 _ ?_
 refine yS fun _ K2 => ?_
 refine yR ?_
 refine yA rfl rfl ?_
 refine yA rfl rfl ?_
 refine yN ?_
 dsimp only [St.put]
 refine K2 _ ?_
 refine yS fun _ K3 => ?_
 refine yS fun _ K4 => ?_
 refine yR ?_
 refine yM rfl rfl ?_
 refine aa rfl (ly rfl rfl) ?_
 refine yF rfl rfl rfl rfl ?_
 refine yF rfl rfl rfl rfl ?_
 refine yL rfl rfl rfl ?_
 refine aa rfl (bl rfl rfl (List.length_map _)) ?_
 refine yM rfl rfl ?_
 refine yN ?_
 dsimp only [St.put]
 refine K4 _ ?_
 refine bh ?_
 refine cr 20 ?_
 refine zQ ?_
 refine dl (G) zX ?_
 dsimp only
 refine dj (X := Nat) (fun k => k ≤ p.pages.length) (fun k => p.pages.length - k) (fun k => [(8, .v (.int .i64 ((dt (p.pages.take k) (gg b (i : Int)) : Nat) : Int))), (9, .v (.int .i64 ((dt (p.pages.take k) (iu p.text b (i : Int)) : Nat) : Int))), (10, .any), (11, .any), (19, .v (.int .i64 (k : Int)))]) (fun k G' => G') 0 rfl ?_ ?_ (fun _ _ h => h) ?_ ?_ ?_
 ·exact Nat.zero_le _
 ·exact zF
 ·rintro k hI
  exact zL
 ·exact fun _ _ _ _ h => .inl h
 rintro k hI
 dsimp only at hI ⊢
 refine yS fun _ K5 => ?_
 refine yR ?_
 refine aa rfl (cn rfl rfl rfl) ?_
 refine yN ?_
 dsimp only [St.put]
 refine K5 _ ?_
 refine yS fun _ K6 => ?_
 refine av rfl (fun hc => ?_) (fun hc => ?_)
 ·replace hc := of_decide_eq_true hc
  obtain ⟨x, hx⟩ : ∃ x, p.pages[k]? = some x := dm (by omega)
  have hax : (p.pages.map (d8 p.text))[k]? = some (d8 p.text x) := by rw [List.getElem?_map, hx]; rfl
  have hp := pageB_true.1 (h.page k x hx)
  have hfd : (dc b x).length ≤ 600 := by
   have hfl := pp hp.found
   have hwl := pp hp.well
   cases b
   ·show x.found.length ≤ 600
    omega
   show x.well.length ≤ 600
   omega
  have hgl := xc p.text x
  have ht1 := ubo (l := p.pages) (g := gg b (i : Int)) k
  have ht2 := ubo (l := p.pages) (g := iu p.text b (i : Int)) k
  refine ay ?_
  refine K6 _ ?_
  refine yS fun _ K7 => ?_
  refine bh ?_
  refine yS fun _ K8 => ?_
  refine yR ?_
  refine yM rfl rfl ?_
  refine aa rfl (bz rfl rfl rfl rfl (bw (by assumption)) (Enc.len _)) ?_
  refine yE rfl rfl rfl ?_
  try dsimp only [St.put]
  refine ae rfl (dd rfl ?_)
  refine yA rfl rfl ?_
  try dsimp only [St.put]
  refine ae rfl (ct rfl rfl rfl zG rfl rfl (by rfl) ?_)
  refine yN ?_
  dsimp only [St.put]
  refine K8 _ ?_
  refine fl (i := 11) rfl zG zC ?_
  dsimp only
  refine yS fun _ K9 => ?_
  refine yR ?_
  refine yF rfl rfl rfl rfl ?_
  refine yL rfl rfl rfl ?_
  refine yE rfl rfl rfl ?_
  try dsimp only [St.put]
  refine ae rfl (ax rfl rfl rfl (yw b x) ?_)
  refine yM rfl rfl ?_
  refine aa rfl (fj rfl rfl rfl) ?_
  refine yN ?_
  dsimp only [St.put]
  refine K9 _ ?_
  refine av rfl (fun hc => ?_) (fun hc => ?_)
  ·have hyes : er b x = (i : Int) := of_decide_eq_true hc
   refine yS fun _ K10 => ?_
   refine yR ?_
   refine yM rfl rfl ?_
   refine yF rfl rfl rfl rfl ?_
   refine yL rfl rfl rfl ?_
   refine yE rfl rfl rfl ?_
   try dsimp only [St.put]
   refine ae rfl (ax rfl rfl rfl (ub7 b x) ?_)
   refine aa rfl (bl rfl rfl (List.length_map _)) ?_
   refine aa rfl (ce rfl rfl rfl (by omega)) ?_
   refine yA rfl rfl ?_
   refine yN ?_
   dsimp only [St.put]
   refine K10 _ ?_
   refine yR ?_
   refine yM rfl rfl ?_
   refine yM rfl rfl ?_
   refine aa rfl (ly rfl rfl) ?_
   refine yF rfl rfl rfl rfl ?_
   refine yL rfl rfl rfl ?_
   refine yM rfl rfl ?_
   refine aa rfl (bz rfl rfl rfl rfl (bw (by assumption)) (Enc.len _)) ?_
   refine yL rfl rfl rfl ?_
   refine aa rfl (bl rfl rfl (List.length_map _)) ?_
   refine aa rfl (ce rfl rfl rfl (by omega)) ?_
   refine yA rfl rfl ?_
   refine yN ?_
   dsimp only [St.put]
   refine K7 _ ?_
   refine yR ?_
   refine aa rfl (ce rfl rfl rfl (by omega)) ?_
   refine yM rfl rfl ?_
   refine yN ?_
   dsimp only [St.put]
   have e1 := td (g := gg b (i : Int)) hx
   have e2 := td (g := iu p.text b (i : Int)) hx
   first
   | (have z : er b x = (i : Int) := hyes
      rw [show ((dt (p.pages.take k) (gg b (i : Int)) : Nat) : Int) + ((dc b x).length : Int) = ((dt (p.pages.take (k + 1)) (gg b (i : Int)) : Nat) : Int) by rw [e1]; unfold gg; rw [decide_eq_true z, cond_true]; rfl, show ((dt (p.pages.take k) (iu p.text b (i : Int)) : Nat) : Int) + ((d8 p.text x).length : Int) = ((dt (p.pages.take (k + 1)) (iu p.text b (i : Int)) : Nat) : Int) by rw [e2]; unfold iu; rw [decide_eq_true z, cond_true]; rfl]
      exact ⟨k + 1, by omega, by omega, ⟨⟨rfl, rfl⟩, zF, zB, zN, zX⟩⟩)
   | (have z : ¬ er b x = (i : Int) := hno
      rw [show dt (p.pages.take k) (gg b (i : Int)) = dt (p.pages.take (k + 1)) (gg b (i : Int)) by rw [e1]; unfold gg; rw [decide_eq_false z]; rfl, show dt (p.pages.take k) (iu p.text b (i : Int)) = dt (p.pages.take (k + 1)) (iu p.text b (i : Int)) by rw [e2]; unfold iu; rw [decide_eq_false z]; rfl]
      exact ⟨k + 1, by omega, by omega, ⟨⟨rfl, rfl⟩, zF, zB, zN, zX⟩⟩)
  have hno : ¬ er b x = (i : Int) := of_decide_eq_false hc
  refine ay ?_
  refine K7 _ ?_
  refine yR ?_
  refine aa rfl (ce rfl rfl rfl (by omega)) ?_
  refine yM rfl rfl ?_
  refine yN ?_
  dsimp only [St.put]
  have e1 := td (g := gg b (i : Int)) hx
  have e2 := td (g := iu p.text b (i : Int)) hx
  first
  | (have z : er b x = (i : Int) := hyes
     rw [show ((dt (p.pages.take k) (gg b (i : Int)) : Nat) : Int) + ((dc b x).length : Int) = ((dt (p.pages.take (k + 1)) (gg b (i : Int)) : Nat) : Int) by rw [e1]; unfold gg; rw [decide_eq_true z, cond_true]; rfl, show ((dt (p.pages.take k) (iu p.text b (i : Int)) : Nat) : Int) + ((d8 p.text x).length : Int) = ((dt (p.pages.take (k + 1)) (iu p.text b (i : Int)) : Nat) : Int) by rw [e2]; unfold iu; rw [decide_eq_true z, cond_true]; rfl]
     exact ⟨k + 1, by omega, by omega, ⟨⟨rfl, rfl⟩, zF, zB, zN, zX⟩⟩)
  | (have z : ¬ er b x = (i : Int) := hno
     rw [show dt (p.pages.take k) (gg b (i : Int)) = dt (p.pages.take (k + 1)) (gg b (i : Int)) by rw [e1]; unfold gg; rw [decide_eq_false z]; rfl, show dt (p.pages.take k) (iu p.text b (i : Int)) = dt (p.pages.take (k + 1)) (iu p.text b (i : Int)) by rw [e2]; unfold iu; rw [decide_eq_false z]; rfl]
     exact ⟨k + 1, by omega, by omega, ⟨⟨rfl, rfl⟩, zF, zB, zN, zX⟩⟩)
 replace hc := of_decide_eq_false hc
 obtain rfl : k = p.pages.length := by omega
 rw [gm (Nat.le_refl p.pages.length)]
 refine dh ?_
 refine K3 _ ?_
 refine yS fun _ K11 => ?_
 refine gt [(0, none), (1, none), (2, none), (3, none), (4, none), (5, none), (6, none), (7, none), (9, none), (8, none), (10, none), (11, none), (12, none), (13, none), (14, none), (15, none)] (fun i => [8, 12].contains i) (fun i => [8, 12].contains i) (fun i => [0, 1, 2, 4, 5, 6, 9, 10, 11, 13, 14, 15].contains i) [] (by kernel_rfl) (by kernel_rfl) ?_
 refine xM rfl rfl rfl rfl rfl ?_
 refine ah rfl rfl rfl rfl (zv rfl rfl rfl (by omega)) ?_
 refine ah rfl rfl rfl rfl (cj rfl rfl rfl) ?_
 try dsimp only [St.put]
 refine aw rfl rfl rfl rfl (ca rfl rfl) ?_
 refine xM rfl rfl rfl rfl rfl ?_
 refine ah rfl rfl rfl rfl (ly rfl rfl) ?_
 refine ah rfl rfl rfl rfl (cj rfl rfl rfl) ?_
 try dsimp only [St.put]
 refine aw rfl rfl rfl rfl (c := val p) (ju (cs := ky p) rfl rfl (show 4 ≤ 7 by decide)) ?_
 refine xM rfl rfl rfl rfl rfl ?_
 refine ja ?_
 try dsimp only [St.put]
 refine gd rfl rfl rfl rfl (ax rfl rfl rfl (pc b p) ?_)
 try dsimp only [St.put]
 refine dz rfl rfl rfl rfl (bz rfl rfl rfl rfl (bw (by assumption)) (Enc.len _)) ?_
 refine dz rfl rfl rfl rfl (cj rfl rfl rfl) ?_
 try dsimp only [St.put]
 refine gd rfl rfl rfl rfl (SStep.e' (D := fun _ => True) (ca rfl rfl) ?_)
 refine dz rfl rfl rfl rfl (iw rfl rfl rfl (by omega)) ?_
 refine dz rfl rfl rfl rfl (zu rfl rfl rfl (by omega) (by omega)) ?_
 refine dz rfl rfl rfl rfl (f9 rfl (by constructor)) ?_
 refine i7 ?_
 dsimp only [St.put]
 rw [show (100 * ((dt p.pages (gg b (i : Int)) : Nat) : Int)) / (100 - r.miss) = lk p b i by unfold lk; rw [hmr]]
 have hbd := ufq h b i
 refine K11 _ ?_
 refine yS fun _ K12 => ?_
 refine yR ?_
 refine yM rfl rfl ?_
 refine yM rfl rfl ?_
 refine yM rfl rfl ?_
 refine aa rfl (iw rfl rfl rfl (by omega)) ?_
 refine yA rfl rfl ?_
 refine yA rfl rfl ?_
 refine yN ?_
 dsimp only [St.put]
 refine K12 _ ?_
 refine aq ?_
 refine kj rfl (by constructor) (by constructor) zN zS ?_ ?_
 ·rfl
 exact vi (by unfold mw; rfl)
end Go.Proofs.YtbbdginipiljdaaDoor
namespace Go.AB
open Go Go.RowKit
open Go.AB.Enc (cells)
open Go.PB (ar ai PlaceD az bf ba bj am af ci bi cy c6)
theorem ujl {p : af} (h : fg p) {j : Nat} {x : am} (hx : p.pages[j]? = some x) {k : Nat} (hk : k < (di p x).length) : ∃ zn : Nat, (di p x)[k]? = some (zn : Int) ∧ zn ≤ 6 := by
 have hp := pageB_true.1 (h.page j x hx)
 have h1 := hp.fst
 have h2 := hp.snd
 have h3 := h.nf
 have h4 := h.ns
 obtain ⟨z, hz⟩ : ∃ z, (di p x)[k]? = some z := ⟨_, List.getElem?_eq_getElem hk⟩
 have hm := List.mem_of_getElem? hz
 have hb : 0 ≤ z ∧ z ≤ 6 := by
  unfold di at hm
  rw [List.mem_append] at hm
  rcases hm with hm | hm
  ·by_cases q : 0 ≤ x.fst
   ·rw [decide_eq_true q, cond_true, List.mem_singleton] at hm; omega
   rw [decide_eq_false q] at hm; cases hm
  by_cases q : 0 ≤ x.snd
  ·rw [decide_eq_true q, cond_true, List.mem_singleton] at hm; omega
  rw [decide_eq_false q] at hm; cases hm
 exact ⟨z.toNat, by rw [hz]; congr 1; omega, by omega⟩
theorem y8 (p : af) (x : am) : (di p x).length ≤ 2 := by
 unfold di
 rw [List.length_append]
 cases decide (0 ≤ x.fst) <;> cases decide (0 ≤ x.snd) <;> simp
end Go.AB
namespace Go.Proofs.YtbbdginipiljdaaDoor
set_option maxRecDepth 10000
open Go.RowKit Go.AB
open Go.AB.Enc (cells)
open Go.PB (ar ai PlaceD az bf ba bj am af ci bi cy c6)
end Go.Proofs.YtbbdginipiljdaaDoor
namespace Go.Proofs.YtbbdginipiljdaaDoor
set_option maxRecDepth 10000
open Go.RowKit Go.AB
open Go.AB.Enc (cells)
open Go.PB (ar ai PlaceD az bf ba bj am af ci bi cy c6)
end Go.Proofs.YtbbdginipiljdaaDoor
namespace Go.AB
open Go Go.RowKit
open Go.AB.Enc (cells)
open Go.PB (ar ai PlaceD az bf ba)
theorem lt3 {a b c a' b' c' : Int} : ez [a, b, c] [a', b', c'] < 0 ↔ a < a' ∨ a = a' ∧ (b < b' ∨ b = b' ∧ c < c') := by
 rw [n4 (a := [a, b, c]) (b := [a', b', c']) rfl]; simp [ltW]
end Go.AB
namespace Go.Proofs.YtbbdginipiljdaaDoor
set_option maxRecDepth 10000
open Go.RowKit Go.AB
open Go.AB.Enc (cells)
open Go.PB (ar ai PlaceD az bf ba)
theorem ugq (a b : PlaceD) : Pure Tryd.prog 102 [val a, val b] (.v (.bool (decide (ez (cw a) (cw b) < 0)))) := by
 refine cz Tryd.func102 rfl (fun m => .v) fun G nx => ?_
 simp only [Tryd.ntmps102, List.length_cons, List.length_nil, Nat.reduceAdd, Nat.reduceSub]
 refine br fun hlt => ?_
 dsimp only at hlt
 refine yS fun _ K1 => ?_
 refine yR ?_
 try dsimp only [St.put]
 refine yB rfl rfl rfl ?_
 try dsimp only [St.put]
 refine yB rfl rfl rfl ?_
 refine yA rfl rfl ?_
 refine yN ?_
 dsimp only [St.put]
 refine K1 _ ?_
 refine yS fun _ K2 => ?_
 refine yS fun _ K3 => ?_
 refine yR ?_
 refine yF rfl rfl rfl rfl ?_
 refine yL rfl rfl rfl ?_
 refine yF rfl rfl rfl rfl ?_
 refine yL rfl rfl rfl ?_
 refine aa rfl (fu rfl rfl rfl) ?_
 refine yN ?_
 dsimp only [St.put]
 refine K3 _ ?_
 refine av rfl (fun hc => ?_) (fun hc => ?_)
 ·have h1 : a.ch ≠ b.ch := j8 hc
  refine yS fun _ K4 => ?_
  refine yR ?_
  refine yF rfl rfl rfl rfl ?_
  refine yL rfl rfl rfl ?_
  refine yF rfl rfl rfl rfl ?_
  refine yL rfl rfl rfl ?_
  refine aa rfl (cn rfl rfl rfl) ?_
  refine yA rfl rfl ?_
  refine yN ?_
  dsimp only [St.put]
  refine K4 _ ?_
  refine aq ?_
  refine bg rfl (by constructor) zN zS ?_
  exact vb (by rw [decide_eq_decide, cw, cw, lt3]; omega)
 have h1 : a.ch = b.ch := ii hc
 refine ay ?_
 refine K2 _ ?_
 refine yS fun _ K5 => ?_
 refine yS fun _ K6 => ?_
 refine yR ?_
 refine yF rfl rfl rfl rfl ?_
 refine yL rfl rfl rfl ?_
 refine yF rfl rfl rfl rfl ?_
 refine yL rfl rfl rfl ?_
 refine aa rfl (fu rfl rfl rfl) ?_
 refine yN ?_
 dsimp only [St.put]
 refine K6 _ ?_
 refine av rfl (fun hc => ?_) (fun hc => ?_)
 ·have h2 : a.ln ≠ b.ln := j8 hc
  refine yS fun _ K7 => ?_
  refine yR ?_
  refine yF rfl rfl rfl rfl ?_
  refine yL rfl rfl rfl ?_
  refine yF rfl rfl rfl rfl ?_
  refine yL rfl rfl rfl ?_
  refine aa rfl (cn rfl rfl rfl) ?_
  refine yA rfl rfl ?_
  refine yN ?_
  dsimp only [St.put]
  refine K7 _ ?_
  refine aq ?_
  refine bg rfl (by constructor) zN zS ?_
  exact vb (by rw [decide_eq_decide, cw, cw, lt3]; omega)
 have h2 : a.ln = b.ln := ii hc
 refine ay ?_
 refine K5 _ ?_
 refine yS fun _ K8 => ?_
 refine yR ?_
 refine yF rfl rfl rfl rfl ?_
 refine yL rfl rfl rfl ?_
 refine yF rfl rfl rfl rfl ?_
 refine yL rfl rfl rfl ?_
 refine aa rfl (cn rfl rfl rfl) ?_
 refine yA rfl rfl ?_
 refine yN ?_
 dsimp only [St.put]
 refine K8 _ ?_
 refine aq ?_
 refine bg rfl (by constructor) zN zS ?_
 exact vb (by rw [decide_eq_decide, cw, cw, lt3]; omega)
end Go.Proofs.YtbbdginipiljdaaDoor
namespace Go.Proofs.YtbbdginipiljdaaDoor
set_option maxRecDepth 10000
open Go.RowKit Go.AB
open Go.AB.Enc (cells)
open Go.PB (ar ai PlaceD az bf ba bj am af ci bi cy c6)
set_option maxHeartbeats 1000000 in
theorem ucj (t : ai) (x : am) (r : Int) (l : List PlaceD) (ht : dp t = true) : Pure Tryd.prog 79 [gl t, val x, .v (.int .i64 r), lst l] (.v (.bool (gz t x r l))) := by
 refine cz Tryd.func79 rfl (fun m => .v) fun G nx => ?_
 simp only [Tryd.ntmps79, List.length_cons, List.length_nil, Nat.reduceAdd, Nat.reduceSub]
 refine br fun hlt => ?_
 dsimp only at hlt
 refine kp 3 (fun hfl => ?_)
 have hl0 := (fit_lst.1 hfl).1
 refine yS fun _ K1 => ?_
 refine yR ?_
 try dsimp only [St.put]
 refine yB rfl rfl rfl ?_
 try dsimp only [St.put]
 refine yB rfl rfl rfl ?_
 refine yA rfl rfl ?_
 refine yN ?_
 dsimp only [St.put]
 refine K1 _ ?_
 refine yS fun _ K2 => ?_
 refine yS fun _ K3 => ?_
 refine yR ?_
 refine yM rfl rfl ?_
 refine aa rfl (cn rfl rfl rfl) ?_
 refine eu (fun hs => ?_) (fun hs => ?_)
 ·have s1 : r < 0 := of_decide_eq_true hs
  refine yM rfl rfl ?_
  refine yM rfl rfl ?_
  refine aa rfl (bl rfl rfl (List.length_map _)) ?_
  refine aa rfl (ij rfl rfl rfl) ?_
  refine aa rfl (bu rfl rfl (by constructor)) ?_
  refine yN ?_
  dsimp only [St.put]
  refine K3 _ ?_
  refine av rfl (fun hc => ?_) (fun hc => ?_)
  ·have s2 : 0 < l.length := by
    have := of_decide_eq_true hc
    omega
   refine yS fun _ K4 => ?_
   refine yR ?_
   refine yA rfl rfl ?_
   refine yN ?_
   dsimp only [St.put]
   refine K4 _ ?_
   refine aq ?_
   refine bg rfl (by constructor) zN zS ?_
   exact vb (by
    have e1 : ¬ 0 ≤ r := by omega
    have e2 : l ≠ [] := fun e => by rw [e] at s2; exact absurd s2 (by simp)
    simp [gz, e1, e2])
  have s3 : (decide (0 ≤ r) || decide (l = [])) = true := by
   first
   | (rw [decide_eq_true (show 0 ≤ r by omega)]; rfl)
   | (have := of_decide_eq_false hc
      have : l = [] := List.eq_nil_of_length_eq_zero (by omega)
      simp [this])
  refine ay ?_
  refine K2 _ ?_
  refine yS fun _ K5 => ?_
  refine yS fun _ K6 => ?_
  refine yR ?_
  refine yA rfl rfl ?_
  refine yN ?_
  dsimp only [St.put]
  refine K6 _ ?_
  refine bh ?_
  refine cr 10 ?_
  refine zQ ?_
  refine dl (G) zX ?_
  dsimp only
  refine dj (X := Nat) (fun i => i ≤ l.length ∧ dn t x l i = true) (fun i => l.length - i) (fun i => [(9, .v (.int .i64 (i : Int)))]) (fun i G' => G') 0 rfl ?_ ?_ (fun _ _ h => h) ?_ ?_ ?_
  ·exact ⟨Nat.zero_le _, rfl⟩
  ·exact zF
  ·rintro i hI
   exact zL
  ·exact fun _ _ _ _ h => .inl h
  rintro i hI
  dsimp only at hI ⊢
  refine yS fun _ K7 => ?_
  refine yS fun _ K8 => ?_
  refine yR ?_
  refine yM rfl rfl ?_
  refine yM rfl rfl ?_
  refine aa rfl (bl rfl rfl (List.length_map _)) ?_
  refine aa rfl (cn rfl rfl rfl) ?_
  refine yN ?_
  dsimp only [St.put]
  refine K8 _ ?_
  refine av rfl (fun hc => ?_) (fun hc => ?_)
  ·replace hc := of_decide_eq_true hc
   obtain ⟨q, hq⟩ : ∃ q, l[i]? = some q := dm (by omega)
   refine ay ?_
   refine K7 _ ?_
   refine yS fun _ K9 => ?_
   refine bh ?_
   refine cr 10 ?_
   refine zQ ?_
   refine l7 (X := Bool) (fun d => jl t x l i = !d) (fun d => [(60, .v (.bool d))]) (fun d G' => G') rfl ?_ (fun _ _ _ _ h => .inl h) ?_ ?_
   ·rintro d hI
    exact zL
   ·refine qv [(0, none), (1, none), (2, none), (3, none), (4, none)] (fun _ => false) (fun i => [1, 2, 3].contains i) 33 (rl [5, 33]) (by kernel_rfl) (by kernel_rfl) ?_
    try dsimp only [St.put]
    refine aw rfl rfl rfl rfl (ep rfl rfl rfl) ?_
    refine xM rfl rfl rfl rfl rfl ?_
    refine xM rfl rfl rfl rfl rfl ?_
    try dsimp only [St.put]
    refine ah rfl rfl rfl rfl (bz rfl rfl rfl rfl (bw (by assumption)) (Enc.len _)) ?_
    try dsimp only [St.put]
    refine aw rfl rfl rfl rfl (ep rfl rfl (Enc.len _)) ?_
    refine cg ?_
    refine dr [5] (by kernel_rfl) (by simp) ?_
    refine dx ?_ ?_
    ·try dsimp only [St.put]
     refine iz rfl rfl rfl (ax rfl rfl rfl (ugm t q ht) ?_)
     refine ef [(6, none), (7, none), (8, none), (9, none), (10, none), (11, none), (12, none), (14, none), (15, none), (16, none), (17, none)] (fun i => [6, 7, 9, 10, 11, 14, 16].contains i) 21 (rl [13, 1, 4, 20]) (by kernel_rfl) ?_
     refine ah rfl rfl rfl rfl (d7 rfl rfl) ?_
     refine j5 (fun hs => ?_) (fun hs => ?_)
     ·have s4 := hs
      refine xM rfl rfl rfl rfl rfl ?_
      refine ak rfl rfl rfl ?_
      refine ak rfl rfl rfl ?_
      refine ak rfl rfl rfl ?_
      refine ak rfl rfl rfl ?_
      refine ak rfl rfl rfl ?_
      refine ak rfl rfl rfl ?_
      refine ak rfl rfl rfl ?_
      refine ak rfl rfl rfl ?_
      refine ak rfl rfl rfl ?_
      refine cg ?_
      refine dr [13] (by kernel_rfl) (by simp) ?_
      refine dx ?_ ?_
      ·refine fy rfl rfl rfl ?_
       refine dr [18] (by kernel_rfl) (by simp) ?_
       refine dx ?_ ?_
       ·refine fy rfl rfl rfl ?_
        refine ef [(19, none), (20, none), (21, none), (22, none), (23, none), (24, none), (25, none), (26, none), (27, none), (28, none), (29, none), (30, none), (31, none), (32, none), (33, none)] (fun i => [19, 20, 21, 22, 23, 24, 25, 26, 27, 28, 30, 31, 32].contains i) 4 (rl [34, 4]) (by kernel_rfl) ?_
        refine ak rfl rfl rfl ?_
        refine ah rfl rfl rfl rfl (bu rfl rfl (by constructor)) ?_
        refine xM rfl rfl rfl rfl rfl ?_
        refine ak rfl rfl rfl ?_
        refine ak rfl rfl rfl ?_
        refine ak rfl rfl rfl ?_
        refine ak rfl rfl rfl ?_
        refine ak rfl rfl rfl ?_
        refine ak rfl rfl rfl ?_
        refine ak rfl rfl rfl ?_
        refine ak rfl rfl rfl ?_
        refine ak rfl rfl rfl ?_
        refine ak rfl rfl rfl ?_
        refine ak rfl rfl rfl ?_
        refine ak rfl rfl rfl ?_
        refine cg ?_
        refine dr [34] (by kernel_rfl) (by simp) ?_
        refine dx ?_ ?_
        ·refine fy rfl rfl rfl ?_
         refine ef [(35, none), (36, none), (37, none)] (fun i => [35, 36, 37].contains i) 0 (rl [38]) (by kernel_rfl) ?_
         refine ak rfl rfl rfl ?_
         refine ak rfl rfl rfl ?_
         refine ah rfl rfl rfl rfl (bu rfl rfl (by constructor)) ?_
         refine cg ?_
         dsimp only [St.put]
         refine g8 (by kernel_rfl) ?_
         refine ⟨_, ?_, ⟨⟨rfl, rfl⟩, zF, zB, zN, zX⟩⟩
         simp_all [jl, gx, na]
         try (intro h0; omega)
        exact dw
       exact dw
      exact dw
     have hqp : fp t q = true := by simpa using hs
     refine xM rfl rfl rfl rfl rfl ?_
     try dsimp only [St.put]
     refine aw rfl rfl rfl rfl (ep rfl rfl rfl) ?_
     refine xM rfl rfl rfl rfl rfl ?_
     refine xM rfl rfl rfl rfl rfl ?_
     try dsimp only [St.put]
     refine ah rfl rfl rfl rfl (bz rfl rfl rfl rfl (bw (by assumption)) (Enc.len _)) ?_
     try dsimp only [St.put]
     refine aw rfl rfl rfl rfl (ep rfl rfl (Enc.len _)) ?_
     refine ah rfl rfl rfl rfl (cj rfl rfl rfl) ?_
     try dsimp only [St.put]
     refine aw rfl rfl rfl rfl (ca rfl rfl) ?_
     refine ah rfl rfl rfl rfl (cj rfl rfl rfl) ?_
     try dsimp only [St.put]
     refine aw rfl rfl rfl rfl (ca rfl rfl) ?_
     refine cg ?_
     refine dr [13] (by kernel_rfl) (by simp) ?_
     refine dx ?_ ?_
     ·try dsimp only [St.put]
      refine iz rfl rfl rfl (ax rfl rfl rfl (ucl t q ht hqp) ?_)
      refine dr [18] (by kernel_rfl) (by simp) ?_
      refine dx ?_ ?_
      ·try dsimp only [St.put]
       refine iz rfl rfl rfl (ax rfl rfl rfl (rn _ _ _) ?_)
       refine ef [(19, none), (20, none), (21, none), (22, none), (23, none), (24, none), (25, none), (26, none), (27, none), (28, none), (29, none), (30, none), (31, none), (32, none), (33, none)] (fun i => [19, 20, 21, 22, 23, 24, 25, 26, 27, 28, 30, 31, 32].contains i) 4 (rl [34, 4]) (by kernel_rfl) ?_
       refine ah rfl rfl rfl rfl (d7 rfl rfl) ?_
       refine j5 (fun hs => ?_) (fun hs => ?_)
       ·have s5 := hs
        refine ah rfl rfl rfl rfl (cm rfl rfl (by constructor)) ?_
        refine xM rfl rfl rfl rfl rfl ?_
        refine ak rfl rfl rfl ?_
        refine ak rfl rfl rfl ?_
        refine ak rfl rfl rfl ?_
        refine ak rfl rfl rfl ?_
        refine ak rfl rfl rfl ?_
        refine ak rfl rfl rfl ?_
        refine ak rfl rfl rfl ?_
        refine ak rfl rfl rfl ?_
        refine ak rfl rfl rfl ?_
        refine ak rfl rfl rfl ?_
        refine ak rfl rfl rfl ?_
        refine ak rfl rfl rfl ?_
        refine cg ?_
        refine dr [34] (by kernel_rfl) (by simp) ?_
        refine dx ?_ ?_
        ·refine fy rfl rfl rfl ?_
         refine ef [(35, none), (36, none), (37, none)] (fun i => [35, 36, 37].contains i) 0 (rl [38]) (by kernel_rfl) ?_
         refine ak rfl rfl rfl ?_
         refine ak rfl rfl rfl ?_
         refine ah rfl rfl rfl rfl (bu rfl rfl (by constructor)) ?_
         refine cg ?_
         dsimp only [St.put]
         refine g8 (by kernel_rfl) ?_
         refine ⟨_, ?_, ⟨⟨rfl, rfl⟩, zF, zB, zN, zX⟩⟩
         simp_all [jl, gx, na]
         try (intro h0; omega)
        exact dw
       have s5 := hs
       refine ah rfl rfl rfl rfl (cm rfl rfl (by constructor)) ?_
       refine xM rfl rfl rfl rfl rfl ?_
       refine xM rfl rfl rfl rfl rfl ?_
       refine ah rfl rfl rfl rfl (ij rfl rfl rfl) ?_
       refine j5 (fun hs => ?_) (fun hs => ?_)
       ·have s6 : 0 < i := by
         have := of_decide_eq_true hs
         omega
        obtain ⟨q0, hq0⟩ : ∃ q0, l[i - 1]? = some q0 := dm (by omega)
        refine xM rfl rfl rfl rfl rfl ?_
        refine xM rfl rfl rfl rfl rfl ?_
        refine xM rfl rfl rfl rfl rfl ?_
        refine ah rfl rfl rfl rfl (iw rfl rfl rfl (by omega)) ?_
        try dsimp only [St.put]
        refine ah rfl rfl rfl rfl (bz (k := i - 1) rfl rfl rfl (by omega) (bw hq0) (Enc.len _)) ?_
        try dsimp only [St.put]
        refine aw rfl rfl rfl rfl (ep rfl rfl (Enc.len _)) ?_
        refine xM rfl rfl rfl rfl rfl ?_
        refine xM rfl rfl rfl rfl rfl ?_
        try dsimp only [St.put]
        refine ah rfl rfl rfl rfl (bz rfl rfl rfl rfl (bw (by assumption)) (Enc.len _)) ?_
        try dsimp only [St.put]
        refine aw rfl rfl rfl rfl (ep rfl rfl (Enc.len _)) ?_
        refine cg ?_
        refine dr [34] (by kernel_rfl) (by simp) ?_
        refine dx ?_ ?_
        ·try dsimp only [St.put]
         refine iz rfl rfl rfl (ax rfl rfl rfl (ugq q0 q) ?_)
         refine ef [(35, none), (36, none), (37, none)] (fun i => [35, 36, 37].contains i) 0 (rl [38]) (by kernel_rfl) ?_
         refine ah rfl rfl rfl rfl (d7 rfl rfl) ?_
         refine ah rfl rfl rfl rfl (bu rfl rfl (by constructor)) ?_
         refine ah rfl rfl rfl rfl (cm rfl rfl (by constructor)) ?_
         refine cg ?_
         dsimp only [St.put]
         refine g8 (by kernel_rfl) ?_
         refine ⟨_, ?_, ⟨⟨rfl, rfl⟩, zF, zB, zN, zX⟩⟩
         simp_all [jl, gx, na]
         try (intro h0; omega)
        exact dw
       have s6 : i = 0 := by
        have := of_decide_eq_false hs
        omega
       refine xM rfl rfl rfl rfl rfl ?_
       refine ak rfl rfl rfl ?_
       refine ak rfl rfl rfl ?_
       refine ak rfl rfl rfl ?_
       refine ak rfl rfl rfl ?_
       refine ak rfl rfl rfl ?_
       refine ak rfl rfl rfl ?_
       refine ak rfl rfl rfl ?_
       refine ak rfl rfl rfl ?_
       refine ak rfl rfl rfl ?_
       refine cg ?_
       refine dr [34] (by kernel_rfl) (by simp) ?_
       refine dx ?_ ?_
       ·refine fy rfl rfl rfl ?_
        refine ef [(35, none), (36, none), (37, none)] (fun i => [35, 36, 37].contains i) 0 (rl [38]) (by kernel_rfl) ?_
        refine ak rfl rfl rfl ?_
        refine ah rfl rfl rfl rfl (cm rfl rfl (by constructor)) ?_
        refine ah rfl rfl rfl rfl (cm rfl rfl (by constructor)) ?_
        refine cg ?_
        dsimp only [St.put]
        refine g8 (by kernel_rfl) ?_
        refine ⟨_, ?_, ⟨⟨rfl, rfl⟩, zF, zB, zN, zX⟩⟩
        simp_all [jl, gx, na]
        try (intro h0; omega)
       exact dw
      exact dw
     exact dw
    exact dw
   rintro d hst
   dsimp only at hst ⊢
   refine av rfl (fun hc => ?_) (fun hc => ?_)
   ·skip
    refine yS fun _ K11 => ?_
    refine yR ?_
    refine yA rfl rfl ?_
    refine yN ?_
    dsimp only [St.put]
    refine K11 _ ?_
    refine aq ?_
    refine bg rfl (by constructor) zN zS ?_
    exact vb (by
     have e : jl t x l i = false := by rw [hst, hc]; rfl
     have : dn t x l l.length = false := by
      refine List.all_eq_false.2 ⟨i, List.mem_range.2 (by omega), by rw [e]; simp⟩
     simp [gz, this])
   skip
   refine ay ?_
   refine K9 _ ?_
   refine yR ?_
   refine yM rfl rfl ?_
   refine aa rfl (ce rfl rfl rfl (by omega)) ?_
   refine yA rfl rfl ?_
   refine yN ?_
   dsimp only [St.put]
   exact ⟨i + 1, by omega, ⟨by omega, by rw [gr, hI.2, hst, hc]; rfl⟩, ⟨⟨rfl, rfl⟩, zF, zB, zN, zX⟩⟩
  replace hc := of_decide_eq_false hc
  obtain rfl : i = l.length := by omega
  refine dh ?_
  refine K5 _ ?_
  refine yS fun _ K12 => ?_
  refine yR ?_
  refine yA rfl rfl ?_
  refine yN ?_
  dsimp only [St.put]
  refine K12 _ ?_
  refine aq ?_
  refine bg rfl (by constructor) zN zS ?_
  exact vb (by
   unfold gz
   rw [hI.2, Bool.and_true]
   first
   | exact s3.symm
   | (have e1 : 0 ≤ r := by omega
      simp [e1]))
 have s1 : ¬ r < 0 := of_decide_eq_false hs
 refine yM rfl rfl ?_
 refine yK rfl ?_
 refine yK rfl ?_
 refine yK rfl ?_
 refine aa rfl (cm rfl rfl (by constructor)) ?_
 refine yN ?_
 dsimp only [St.put]
 refine K3 _ ?_
 refine av rfl (fun h => by cases h) (fun _ => ?_)
 have s3 : (decide (0 ≤ r) || decide (l = [])) = true := by
  first
  | (rw [decide_eq_true (show 0 ≤ r by omega)]; rfl)
  | (have := of_decide_eq_false hc
     have : l = [] := List.eq_nil_of_length_eq_zero (by omega)
     simp [this])
 refine ay ?_
 refine K2 _ ?_
 refine yS fun _ K13 => ?_
 refine yS fun _ K14 => ?_
 refine yR ?_
 refine yA rfl rfl ?_
 refine yN ?_
 dsimp only [St.put]
 refine K14 _ ?_
 refine bh ?_
 refine cr 10 ?_
 refine zQ ?_
 refine dl (G) zX ?_
 dsimp only
 refine dj (X := Nat) (fun i => i ≤ l.length ∧ dn t x l i = true) (fun i => l.length - i) (fun i => [(9, .v (.int .i64 (i : Int)))]) (fun i G' => G') 0 rfl ?_ ?_ (fun _ _ h => h) ?_ ?_ ?_
 ·exact ⟨Nat.zero_le _, rfl⟩
 ·exact zF
 ·rintro i hI
  exact zL
 ·exact fun _ _ _ _ h => .inl h
 rintro i hI
 dsimp only at hI ⊢
 refine yS fun _ K15 => ?_
 refine yS fun _ K16 => ?_
 refine yR ?_
 refine yM rfl rfl ?_
 refine yM rfl rfl ?_
 refine aa rfl (bl rfl rfl (List.length_map _)) ?_
 refine aa rfl (cn rfl rfl rfl) ?_
 refine yN ?_
 dsimp only [St.put]
 refine K16 _ ?_
 refine av rfl (fun hc => ?_) (fun hc => ?_)
 ·replace hc := of_decide_eq_true hc
  obtain ⟨q, hq⟩ : ∃ q, l[i]? = some q := dm (by omega)
  refine ay ?_
  refine K15 _ ?_
  refine yS fun _ K17 => ?_
  refine bh ?_
  refine cr 10 ?_
  refine zQ ?_
  refine l7 (X := Bool) (fun d => jl t x l i = !d) (fun d => [(60, .v (.bool d))]) (fun d G' => G') rfl ?_ (fun _ _ _ _ h => .inl h) ?_ ?_
  ·rintro d hI
   exact zL
  ·refine qv [(0, none), (1, none), (2, none), (3, none), (4, none)] (fun _ => false) (fun i => [1, 2, 3].contains i) 33 (rl [5, 33]) (by kernel_rfl) (by kernel_rfl) ?_
   try dsimp only [St.put]
   refine aw rfl rfl rfl rfl (ep rfl rfl rfl) ?_
   refine xM rfl rfl rfl rfl rfl ?_
   refine xM rfl rfl rfl rfl rfl ?_
   try dsimp only [St.put]
   refine ah rfl rfl rfl rfl (bz rfl rfl rfl rfl (bw (by assumption)) (Enc.len _)) ?_
   try dsimp only [St.put]
   refine aw rfl rfl rfl rfl (ep rfl rfl (Enc.len _)) ?_
   refine cg ?_
   refine dr [5] (by kernel_rfl) (by simp) ?_
   refine dx ?_ ?_
   ·try dsimp only [St.put]
    refine iz rfl rfl rfl (ax rfl rfl rfl (ugm t q ht) ?_)
    refine ef [(6, none), (7, none), (8, none), (9, none), (10, none), (11, none), (12, none), (14, none), (15, none), (16, none), (17, none)] (fun i => [6, 7, 9, 10, 11, 14, 16].contains i) 21 (rl [13, 1, 4, 20]) (by kernel_rfl) ?_
    refine ah rfl rfl rfl rfl (d7 rfl rfl) ?_
    refine j5 (fun hs => ?_) (fun hs => ?_)
    ·have s4 := hs
     refine xM rfl rfl rfl rfl rfl ?_
     refine ak rfl rfl rfl ?_
     refine ak rfl rfl rfl ?_
     refine ak rfl rfl rfl ?_
     refine ak rfl rfl rfl ?_
     refine ak rfl rfl rfl ?_
     refine ak rfl rfl rfl ?_
     refine ak rfl rfl rfl ?_
     refine ak rfl rfl rfl ?_
     refine ak rfl rfl rfl ?_
     refine cg ?_
     refine dr [13] (by kernel_rfl) (by simp) ?_
     refine dx ?_ ?_
     ·refine fy rfl rfl rfl ?_
      refine dr [18] (by kernel_rfl) (by simp) ?_
      refine dx ?_ ?_
      ·refine fy rfl rfl rfl ?_
       refine ef [(19, none), (20, none), (21, none), (22, none), (23, none), (24, none), (25, none), (26, none), (27, none), (28, none), (29, none), (30, none), (31, none), (32, none), (33, none)] (fun i => [19, 20, 21, 22, 23, 24, 25, 26, 27, 28, 30, 31, 32].contains i) 4 (rl [34, 4]) (by kernel_rfl) ?_
       refine ak rfl rfl rfl ?_
       refine ah rfl rfl rfl rfl (bu rfl rfl (by constructor)) ?_
       refine xM rfl rfl rfl rfl rfl ?_
       refine ak rfl rfl rfl ?_
       refine ak rfl rfl rfl ?_
       refine ak rfl rfl rfl ?_
       refine ak rfl rfl rfl ?_
       refine ak rfl rfl rfl ?_
       refine ak rfl rfl rfl ?_
       refine ak rfl rfl rfl ?_
       refine ak rfl rfl rfl ?_
       refine ak rfl rfl rfl ?_
       refine ak rfl rfl rfl ?_
       refine ak rfl rfl rfl ?_
       refine ak rfl rfl rfl ?_
       refine cg ?_
       refine dr [34] (by kernel_rfl) (by simp) ?_
       refine dx ?_ ?_
       ·refine fy rfl rfl rfl ?_
        refine ef [(35, none), (36, none), (37, none)] (fun i => [35, 36, 37].contains i) 0 (rl [38]) (by kernel_rfl) ?_
        refine ak rfl rfl rfl ?_
        refine ak rfl rfl rfl ?_
        refine ah rfl rfl rfl rfl (bu rfl rfl (by constructor)) ?_
        refine cg ?_
        dsimp only [St.put]
        refine g8 (by kernel_rfl) ?_
        refine ⟨_, ?_, ⟨⟨rfl, rfl⟩, zF, zB, zN, zX⟩⟩
        simp_all [jl, gx, na]
        try (intro h0; omega)
       exact dw
      exact dw
     exact dw
    have hqp : fp t q = true := by simpa using hs
    refine xM rfl rfl rfl rfl rfl ?_
    try dsimp only [St.put]
    refine aw rfl rfl rfl rfl (ep rfl rfl rfl) ?_
    refine xM rfl rfl rfl rfl rfl ?_
    refine xM rfl rfl rfl rfl rfl ?_
    try dsimp only [St.put]
    refine ah rfl rfl rfl rfl (bz rfl rfl rfl rfl (bw (by assumption)) (Enc.len _)) ?_
    try dsimp only [St.put]
    refine aw rfl rfl rfl rfl (ep rfl rfl (Enc.len _)) ?_
    refine ah rfl rfl rfl rfl (cj rfl rfl rfl) ?_
    try dsimp only [St.put]
    refine aw rfl rfl rfl rfl (ca rfl rfl) ?_
    refine ah rfl rfl rfl rfl (cj rfl rfl rfl) ?_
    try dsimp only [St.put]
    refine aw rfl rfl rfl rfl (ca rfl rfl) ?_
    refine cg ?_
    refine dr [13] (by kernel_rfl) (by simp) ?_
    refine dx ?_ ?_
    ·try dsimp only [St.put]
     refine iz rfl rfl rfl (ax rfl rfl rfl (ucl t q ht hqp) ?_)
     refine dr [18] (by kernel_rfl) (by simp) ?_
     refine dx ?_ ?_
     ·try dsimp only [St.put]
      refine iz rfl rfl rfl (ax rfl rfl rfl (rn _ _ _) ?_)
      refine ef [(19, none), (20, none), (21, none), (22, none), (23, none), (24, none), (25, none), (26, none), (27, none), (28, none), (29, none), (30, none), (31, none), (32, none), (33, none)] (fun i => [19, 20, 21, 22, 23, 24, 25, 26, 27, 28, 30, 31, 32].contains i) 4 (rl [34, 4]) (by kernel_rfl) ?_
      refine ah rfl rfl rfl rfl (d7 rfl rfl) ?_
      refine j5 (fun hs => ?_) (fun hs => ?_)
      ·have s5 := hs
       refine ah rfl rfl rfl rfl (cm rfl rfl (by constructor)) ?_
       refine xM rfl rfl rfl rfl rfl ?_
       refine ak rfl rfl rfl ?_
       refine ak rfl rfl rfl ?_
       refine ak rfl rfl rfl ?_
       refine ak rfl rfl rfl ?_
       refine ak rfl rfl rfl ?_
       refine ak rfl rfl rfl ?_
       refine ak rfl rfl rfl ?_
       refine ak rfl rfl rfl ?_
       refine ak rfl rfl rfl ?_
       refine ak rfl rfl rfl ?_
       refine ak rfl rfl rfl ?_
       refine ak rfl rfl rfl ?_
       refine cg ?_
       refine dr [34] (by kernel_rfl) (by simp) ?_
       refine dx ?_ ?_
       ·refine fy rfl rfl rfl ?_
        refine ef [(35, none), (36, none), (37, none)] (fun i => [35, 36, 37].contains i) 0 (rl [38]) (by kernel_rfl) ?_
        refine ak rfl rfl rfl ?_
        refine ak rfl rfl rfl ?_
        refine ah rfl rfl rfl rfl (bu rfl rfl (by constructor)) ?_
        refine cg ?_
        dsimp only [St.put]
        refine g8 (by kernel_rfl) ?_
        refine ⟨_, ?_, ⟨⟨rfl, rfl⟩, zF, zB, zN, zX⟩⟩
        simp_all [jl, gx, na]
        try (intro h0; omega)
       exact dw
      have s5 := hs
      refine ah rfl rfl rfl rfl (cm rfl rfl (by constructor)) ?_
      refine xM rfl rfl rfl rfl rfl ?_
      refine xM rfl rfl rfl rfl rfl ?_
      refine ah rfl rfl rfl rfl (ij rfl rfl rfl) ?_
      refine j5 (fun hs => ?_) (fun hs => ?_)
      ·have s6 : 0 < i := by
        have := of_decide_eq_true hs
        omega
       obtain ⟨q0, hq0⟩ : ∃ q0, l[i - 1]? = some q0 := dm (by omega)
       refine xM rfl rfl rfl rfl rfl ?_
       refine xM rfl rfl rfl rfl rfl ?_
       refine xM rfl rfl rfl rfl rfl ?_
       refine ah rfl rfl rfl rfl (iw rfl rfl rfl (by omega)) ?_
       try dsimp only [St.put]
       refine ah rfl rfl rfl rfl (bz (k := i - 1) rfl rfl rfl (by omega) (bw hq0) (Enc.len _)) ?_
       try dsimp only [St.put]
       refine aw rfl rfl rfl rfl (ep rfl rfl (Enc.len _)) ?_
       refine xM rfl rfl rfl rfl rfl ?_
       refine xM rfl rfl rfl rfl rfl ?_
       try dsimp only [St.put]
       refine ah rfl rfl rfl rfl (bz rfl rfl rfl rfl (bw (by assumption)) (Enc.len _)) ?_
       try dsimp only [St.put]
       refine aw rfl rfl rfl rfl (ep rfl rfl (Enc.len _)) ?_
       refine cg ?_
       refine dr [34] (by kernel_rfl) (by simp) ?_
       refine dx ?_ ?_
       ·try dsimp only [St.put]
        refine iz rfl rfl rfl (ax rfl rfl rfl (ugq q0 q) ?_)
        refine ef [(35, none), (36, none), (37, none)] (fun i => [35, 36, 37].contains i) 0 (rl [38]) (by kernel_rfl) ?_
        refine ah rfl rfl rfl rfl (d7 rfl rfl) ?_
        refine ah rfl rfl rfl rfl (bu rfl rfl (by constructor)) ?_
        refine ah rfl rfl rfl rfl (cm rfl rfl (by constructor)) ?_
        refine cg ?_
        dsimp only [St.put]
        refine g8 (by kernel_rfl) ?_
        refine ⟨_, ?_, ⟨⟨rfl, rfl⟩, zF, zB, zN, zX⟩⟩
        simp_all [jl, gx, na]
        try (intro h0; omega)
       exact dw
      have s6 : i = 0 := by
       have := of_decide_eq_false hs
       omega
      refine xM rfl rfl rfl rfl rfl ?_
      refine ak rfl rfl rfl ?_
      refine ak rfl rfl rfl ?_
      refine ak rfl rfl rfl ?_
      refine ak rfl rfl rfl ?_
      refine ak rfl rfl rfl ?_
      refine ak rfl rfl rfl ?_
      refine ak rfl rfl rfl ?_
      refine ak rfl rfl rfl ?_
      refine ak rfl rfl rfl ?_
      refine cg ?_
      refine dr [34] (by kernel_rfl) (by simp) ?_
      refine dx ?_ ?_
      ·refine fy rfl rfl rfl ?_
       refine ef [(35, none), (36, none), (37, none)] (fun i => [35, 36, 37].contains i) 0 (rl [38]) (by kernel_rfl) ?_
       refine ak rfl rfl rfl ?_
       refine ah rfl rfl rfl rfl (cm rfl rfl (by constructor)) ?_
       refine ah rfl rfl rfl rfl (cm rfl rfl (by constructor)) ?_
       refine cg ?_
       dsimp only [St.put]
       refine g8 (by kernel_rfl) ?_
       refine ⟨_, ?_, ⟨⟨rfl, rfl⟩, zF, zB, zN, zX⟩⟩
       simp_all [jl, gx, na]
       try (intro h0; omega)
      exact dw
     exact dw
    exact dw
   exact dw
  rintro d hst
  dsimp only at hst ⊢
  refine av rfl (fun hc => ?_) (fun hc => ?_)
  ·skip
   refine yS fun _ K19 => ?_
   refine yR ?_
   refine yA rfl rfl ?_
   refine yN ?_
   dsimp only [St.put]
   refine K19 _ ?_
   refine aq ?_
   refine bg rfl (by constructor) zN zS ?_
   exact vb (by
    have e : jl t x l i = false := by rw [hst, hc]; rfl
    have : dn t x l l.length = false := by
     refine List.all_eq_false.2 ⟨i, List.mem_range.2 (by omega), by rw [e]; simp⟩
    simp [gz, this])
  skip
  refine ay ?_
  refine K17 _ ?_
  refine yR ?_
  refine yM rfl rfl ?_
  refine aa rfl (ce rfl rfl rfl (by omega)) ?_
  refine yA rfl rfl ?_
  refine yN ?_
  dsimp only [St.put]
  exact ⟨i + 1, by omega, ⟨by omega, by rw [gr, hI.2, hst, hc]; rfl⟩, ⟨⟨rfl, rfl⟩, zF, zB, zN, zX⟩⟩
 replace hc := of_decide_eq_false hc
 obtain rfl : i = l.length := by omega
 refine dh ?_
 refine K13 _ ?_
 refine yS fun _ K20 => ?_
 refine yR ?_
 refine yA rfl rfl ?_
 refine yN ?_
 dsimp only [St.put]
 refine K20 _ ?_
 refine aq ?_
 refine bg rfl (by constructor) zN zS ?_
 exact vb (by
  unfold gz
  rw [hI.2, Bool.and_true]
  first
  | exact s3.symm
  | (have e1 : 0 ≤ r := by omega
     simp [e1]))
end Go.Proofs.YtbbdginipiljdaaDoor
namespace Go.AB
open Go Go.RowKit
open Go.AB.Enc (cells)
open Go.PB (ar ai PlaceD az bf ba bj am af ci bi cy c6)
def mx (p : af) (last : Int) (x : am) : Bool := decide (last < x.fr) && decide (x.fr ≤ x.to) && decide (x.to < (ms p.text : Int)) && inB x.fst (-1) ((p.firsts.length : Int) - 1) && inB x.snd (-1) ((p.seconds.length : Int) - 1)
theorem v8 (p : af) (last : Int) (x : am) : kb p last x = (mx p last x && (gz p.text x x.fst x.found && gz p.text x x.snd x.well)) := by
 unfold kb mx
 cases decide (last < x.fr) <;> cases decide (x.fr ≤ x.to) <;> cases decide (x.to < (ms p.text : Int)) <;> cases inB x.fst (-1) ((p.firsts.length : Int) - 1) <;> cases inB x.snd (-1) ((p.seconds.length : Int) - 1) <;> simp
theorem za {p : af} {j : Nat} {x : am} (h : p.pages[j]? = some x) : qg p j = kb p (gq p.pages j) x := by unfold qg; rw [h]
theorem ud8 {l : List am} {j : Nat} {x : am} (h : l[j]? = some x) : gq l (j + 1) = x.to := by simp only [gq, h]
theorem v7 {p : af} {j : Nat} {x : am} (h : p.pages[j]? = some x) (hb : kb p (gq p.pages j) x = false) : fh p = false := by
 have : qf p p.pages.length = false := List.all_eq_false.2 ⟨j, List.mem_range.2 (List.getElem?_eq_some_iff.1 h).1, by rw [za h, hb]; simp⟩
 simp [fh, this]
end Go.AB
namespace Go.Proofs.YtbbdginipiljdaaDoor
set_option maxRecDepth 10000
open Go.RowKit Go.AB
open Go.AB.Enc (cells)
open Go.PB (ar ai PlaceD az bf ba bj am af ci bi cy c6)
set_option maxHeartbeats 2000000 in
theorem ujt (p : af) (ht : dp p.text = true) : Pure Tryd.prog 47 [val p] (.v (.bool (fh p))) := by
 refine cz Tryd.func47 rfl (fun m => .v) fun G nx => ?_
 simp only [Tryd.ntmps47, List.length_cons, List.length_nil, Nat.reduceAdd, Nat.reduceSub]
 refine br fun hlt => ?_
 dsimp only at hlt
 refine yS fun _ K1 => ?_
 refine yR ?_
 try dsimp only [St.put]
 refine yB rfl rfl rfl ?_
 refine yA rfl rfl ?_
 refine yN ?_
 dsimp only [St.put]
 refine K1 _ ?_
 refine yS fun _ K2 => ?_
 refine yS fun _ K3 => ?_
 refine yR ?_
 refine yF rfl rfl rfl rfl ?_
 refine yL rfl rfl rfl ?_
 refine aa rfl (bl rfl rfl (List.length_map _)) ?_
 refine aa rfl (ij rfl rfl rfl) ?_
 refine eu (fun hs => ?_) (fun hs => ?_)
 ·have s1 : ¬ p.firsts.length ≤ 3 := by
   have := of_decide_eq_true hs
   omega
  refine yM rfl rfl ?_
  refine yK rfl ?_
  refine yK rfl ?_
  refine yK rfl ?_
  refine yK rfl ?_
  refine aa rfl (bu rfl rfl (by constructor)) ?_
  refine yM rfl rfl ?_
  refine yK rfl ?_
  refine yK rfl ?_
  refine yK rfl ?_
  refine yK rfl ?_
  refine aa rfl (bu rfl rfl (by constructor)) ?_
  refine yN ?_
  dsimp only [St.put]
  refine K3 _ ?_
  refine av rfl (fun _ => ?_) (fun h => by cases h)
  refine yS fun _ K4 => ?_
  refine yR ?_
  refine yA rfl rfl ?_
  refine yN ?_
  dsimp only [St.put]
  refine K4 _ ?_
  refine aq ?_
  refine bg rfl (by constructor) zN zS ?_
  exact vb (by first | (simp [fh, jk, s1]; done) | (simp [fh, jk, s2]; done) | (simp [fh, s3]; done))
 have s1 : p.firsts.length ≤ 3 := by
  have := of_decide_eq_false hs
  omega
 refine yM rfl rfl ?_
 refine yF rfl rfl rfl rfl ?_
 refine yL rfl rfl rfl ?_
 refine aa rfl (bl rfl rfl (List.length_map _)) ?_
 refine aa rfl (ij rfl rfl rfl) ?_
 refine eu (fun hs => ?_) (fun hs => ?_)
 ·have s2 : ¬ p.seconds.length ≤ 3 := by
   have := of_decide_eq_true hs
   omega
  refine aa rfl (cm rfl rfl (by constructor)) ?_
  refine yM rfl rfl ?_
  refine yK rfl ?_
  refine yK rfl ?_
  refine yK rfl ?_
  refine yK rfl ?_
  refine aa rfl (bu rfl rfl (by constructor)) ?_
  refine yN ?_
  dsimp only [St.put]
  refine K3 _ ?_
  refine av rfl (fun _ => ?_) (fun h => by cases h)
  refine yS fun _ K5 => ?_
  refine yR ?_
  refine yA rfl rfl ?_
  refine yN ?_
  dsimp only [St.put]
  refine K5 _ ?_
  refine aq ?_
  refine bg rfl (by constructor) zN zS ?_
  exact vb (by first | (simp [fh, jk, s1]; done) | (simp [fh, jk, s2]; done) | (simp [fh, s3]; done))
 have s2 : p.seconds.length ≤ 3 := by
  have := of_decide_eq_false hs
  omega
 refine aa rfl (cm rfl rfl (by constructor)) ?_
 refine yM rfl rfl ?_
 refine yF rfl rfl rfl rfl ?_
 refine yL rfl rfl rfl ?_
 refine aa rfl (bl rfl rfl (List.length_map _)) ?_
 refine aa rfl (ij rfl rfl rfl) ?_
 refine eu (fun hs => ?_) (fun hs => ?_)
 ·have s3 : ¬ p.pages.length ≤ 8 := by
   have := of_decide_eq_true hs
   omega
  refine aa rfl (cm rfl rfl (by constructor)) ?_
  refine yN ?_
  dsimp only [St.put]
  refine K3 _ ?_
  refine av rfl (fun _ => ?_) (fun h => by cases h)
  refine yS fun _ K6 => ?_
  refine yR ?_
  refine yA rfl rfl ?_
  refine yN ?_
  dsimp only [St.put]
  refine K6 _ ?_
  refine aq ?_
  refine bg rfl (by constructor) zN zS ?_
  exact vb (by first | (simp [fh, jk, s1]; done) | (simp [fh, jk, s2]; done) | (simp [fh, s3]; done))
 have s3 : p.pages.length ≤ 8 := by
  have := of_decide_eq_false hs
  omega
 obtain ⟨A, hA⟩ : ∃ A, p.firsts ++ p.seconds = A := ⟨_, rfl⟩
 have hAl : A.length ≤ 6 := by rw [← hA, List.length_append]; omega
 refine aa rfl (cm rfl rfl (by constructor)) ?_
 refine yN ?_
 dsimp only [St.put]
 refine K3 _ ?_
 refine av rfl (fun h => by cases h) (fun _ => ?_)
 refine ay ?_
 refine K2 _ ?_
 refine yS fun _ K7 => ?_
 refine yR ?_
 refine yA rfl rfl ?_
 refine yN ?_
 dsimp only [St.put]
 refine K7 _ ?_
 refine uga 3 66 2 rfl (by decide) ?_
 refine yS fun _ K8 => ?_
 refine gt [(0, none), (1, none), (2, none), (4, none), (5, none), (3, none), (6, none), (7, none)] (fun i => [6].contains i) (fun i => [3, 6].contains i) (fun i => [0, 1, 4, 7].contains i) [] (by kernel_rfl) (by kernel_rfl) ?_
 refine xM rfl rfl rfl rfl rfl ?_
 refine ah rfl rfl rfl rfl (cj rfl rfl rfl) ?_
 try dsimp only [St.put]
 refine aw rfl rfl rfl rfl (ca rfl rfl) ?_
 refine ah rfl rfl rfl rfl (cj rfl rfl rfl) ?_
 try dsimp only [St.put]
 refine aw rfl rfl rfl rfl (ca rfl rfl) ?_
 refine ja ?_
 try dsimp only [St.put]
 refine i9 rfl rfl rfl (o1 (xs := ([] : List bj)) p.firsts rfl rfl zG rfl rfl rfl rfl zA zA (fun v1 => ⟨zD, ?_⟩))
 try dsimp only [St.put]
 refine i9 rfl rfl rfl (o1 (xs := ([] : List bj) ++ p.firsts) p.seconds rfl rfl zG rfl rfl rfl rfl zA zA (fun v2 => ⟨zD, ?_⟩))
 refine dz rfl rfl rfl rfl (f9 rfl (by constructor)) ?_
 refine i7 ?_
 dsimp only [St.put]
 refine K8 _ ?_
 refine ua1 3 (([] : List bj) ++ p.firsts ++ p.seconds) rfl zG rfl rfl rfl ?_
 refine dl G zX ?_
 dsimp only
 rw [show ([] : List bj) ++ p.firsts ++ p.seconds = A from hA]
 refine yS fun _ K9 => ?_
 refine yS fun _ K10 => ?_
 refine yR ?_
 refine yA rfl rfl ?_
 refine yN ?_
 dsimp only [St.put]
 refine K10 _ ?_
 refine bh ?_
 refine cr 9 ?_
 refine zQ ?_
 refine dl (G) zX ?_
 dsimp only
 refine dj (X := Nat) (fun i => i ≤ A.length ∧ (A.take i).all gj = true ∧ ((A.take i).map (·.id)).Nodup) (fun i => A.length - i) (fun i => [(4, .v (.int .i64 (i : Int))), (5, .any)]) (fun i G' => G') 0 rfl ?_ ?_ (fun _ _ h => h) ?_ ?_ ?_
 ·exact ⟨Nat.zero_le _, rfl, by simp⟩
 ·exact zF
 ·rintro i hI
  exact zL
 ·exact fun _ _ _ _ h => .inl h
 rintro i hI
 dsimp only at hI ⊢
 refine yS fun _ K11 => ?_
 refine yS fun _ K12 => ?_
 refine yR ?_
 refine yM rfl rfl ?_
 refine yM rfl rfl ?_
 refine aa rfl (bl rfl rfl (List.length_map _)) ?_
 refine aa rfl (cn rfl rfl rfl) ?_
 refine yN ?_
 dsimp only [St.put]
 refine K12 _ ?_
 refine av rfl (fun hc => ?_) (fun hc => ?_)
 ·replace hc := of_decide_eq_true hc
  obtain ⟨r, hr⟩ : ∃ r, A[i]? = some r := dm (by omega)
  refine ay ?_
  refine K11 _ ?_
  refine yS fun _ K13 => ?_
  refine bh ?_
  refine yS fun _ K14 => ?_
  refine yS fun _ K15 => ?_
  refine yR ?_
  refine yM rfl rfl ?_
  refine yM rfl rfl ?_
  refine aa rfl (bz rfl rfl rfl rfl (bw (by assumption)) (Enc.len _)) ?_
  refine yF rfl rfl rfl rfl ?_
  refine yL rfl rfl rfl ?_
  try dsimp only [St.put]
  refine ae rfl (ax rfl rfl rfl (rn _ _ _) ?_)
  refine aa rfl (d7 rfl rfl) ?_
  refine eu (fun hs => ?_) (fun hs => ?_)
  ·have q1 : inB r.id 0 9999 = false := by simpa using hs
   refine yM rfl rfl ?_
   refine yK rfl ?_
   refine yK rfl ?_
   refine yK rfl ?_
   refine yK rfl ?_
   refine yK rfl ?_
   refine yK rfl ?_
   refine yK rfl ?_
   refine aa rfl (bu rfl rfl (by constructor)) ?_
   refine yN ?_
   dsimp only [St.put]
   refine K15 _ ?_
   refine av rfl (fun _ => ?_) (fun h => by cases h)
   refine yS fun _ K16 => ?_
   refine yR ?_
   refine yA rfl rfl ?_
   refine yN ?_
   dsimp only [St.put]
   refine K16 _ ?_
   refine aq ?_
   refine bg rfl (by constructor) zN zS ?_
   exact vb (by
    have hb : gj r = false := by first | (simp [gj, q1]; done) | (simp [gj, q2]; done)
    have : A.all gj = false := kr hr hb
    rw [← hA] at this
    simp only [fh, jk, this, Bool.and_false, Bool.false_and])
  have q1 : inB r.id 0 9999 = true := by simpa using hs
  refine yM rfl rfl ?_
  refine yM rfl rfl ?_
  refine yM rfl rfl ?_
  refine aa rfl (bz rfl rfl rfl rfl (bw (by assumption)) (Enc.len _)) ?_
  refine yF rfl rfl rfl rfl ?_
  refine yL rfl rfl rfl ?_
  try dsimp only [St.put]
  refine ae rfl (ax rfl rfl rfl (rn _ _ _) ?_)
  refine aa rfl (d7 rfl rfl) ?_
  refine eu (fun hs => ?_) (fun hs => ?_)
  ·have q2 : inB r.miss 0 90 = false := by simpa using hs
   refine aa rfl (cm rfl rfl (by constructor)) ?_
   refine yN ?_
   dsimp only [St.put]
   refine K15 _ ?_
   refine av rfl (fun _ => ?_) (fun h => by cases h)
   refine yS fun _ K17 => ?_
   refine yR ?_
   refine yA rfl rfl ?_
   refine yN ?_
   dsimp only [St.put]
   refine K17 _ ?_
   refine aq ?_
   refine bg rfl (by constructor) zN zS ?_
   exact vb (by
    have hb : gj r = false := by first | (simp [gj, q1]; done) | (simp [gj, q2]; done)
    have : A.all gj = false := kr hr hb
    rw [← hA] at this
    simp only [fh, jk, this, Bool.and_false, Bool.false_and])
  have q2 : inB r.miss 0 90 = true := by simpa using hs
  have hrb : gj r = true := by simp [gj, q1, q2]
  refine aa rfl (cm rfl rfl (by constructor)) ?_
  refine yN ?_
  dsimp only [St.put]
  refine K15 _ ?_
  refine av rfl (fun h => by cases h) (fun _ => ?_)
  refine ay ?_
  refine K14 _ ?_
  refine yS fun _ K18 => ?_
  refine yR ?_
  refine yA rfl rfl ?_
  refine yN ?_
  dsimp only [St.put]
  refine K18 _ ?_
  refine bh ?_
  refine cr 9 ?_
  refine zQ ?_
  refine dl (G) zX ?_
  dsimp only
  refine dj (X := Nat) (fun k => k ≤ i ∧ ∀ y ∈ A.take k, y.id ≠ r.id) (fun k => i - k) (fun k => [(5, .v (.int .i64 (k : Int)))]) (fun k G' => G') 0 rfl ?_ ?_ (fun _ _ h => h) ?_ ?_ ?_
  ·exact ⟨Nat.zero_le _, by simp⟩
  ·exact zF
  ·rintro k hI
   exact zL
  ·exact fun _ _ _ _ h => .inl h
  rintro k hJ
  dsimp only at hJ ⊢
  refine yS fun _ K19 => ?_
  refine yS fun _ K20 => ?_
  refine yR ?_
  refine yM rfl rfl ?_
  refine yM rfl rfl ?_
  refine aa rfl (cn rfl rfl rfl) ?_
  refine yN ?_
  dsimp only [St.put]
  refine K20 _ ?_
  refine av rfl (fun hc => ?_) (fun hc => ?_)
  ·replace hc := of_decide_eq_true hc
   obtain ⟨y, hy⟩ : ∃ y, A[k]? = some y := dm (by omega)
   refine ay ?_
   refine K19 _ ?_
   refine yS fun _ K21 => ?_
   refine bh ?_
   refine yS fun _ K22 => ?_
   refine gt [(0, none), (1, none), (2, none), (3, none), (4, none), (5, none), (6, none), (7, none), (8, none), (9, none), (10, none)] (fun i => [].contains i) (fun i => [].contains i) (fun i => [0, 1, 2, 3, 5, 6, 7, 8, 10].contains i) [] (by kernel_rfl) (by kernel_rfl) ?_
   refine xM rfl rfl rfl rfl rfl ?_
   refine xM rfl rfl rfl rfl rfl ?_
   try dsimp only [St.put]
   refine ah rfl rfl rfl rfl (bz rfl rfl rfl rfl (bw (by assumption)) (Enc.len _)) ?_
   refine ah rfl rfl rfl rfl (cj rfl rfl rfl) ?_
   try dsimp only [St.put]
   refine aw rfl rfl rfl rfl (ca rfl rfl) ?_
   refine xM rfl rfl rfl rfl rfl ?_
   refine xM rfl rfl rfl rfl rfl ?_
   try dsimp only [St.put]
   refine ah rfl rfl rfl rfl (bz rfl rfl rfl rfl (bw (by assumption)) (Enc.len _)) ?_
   refine ah rfl rfl rfl rfl (cj rfl rfl rfl) ?_
   try dsimp only [St.put]
   refine aw rfl rfl rfl rfl (ca rfl rfl) ?_
   refine ah rfl rfl rfl rfl (fj rfl rfl rfl) ?_
   refine cg ?_
   dsimp only [St.put]
   refine K22 _ ?_
   refine av rfl (fun hc => ?_) (fun hc => ?_)
   ·have hyr : y.id = r.id := of_decide_eq_true hc
    refine yS fun _ K23 => ?_
    refine yR ?_
    refine yA rfl rfl ?_
    refine yN ?_
    dsimp only [St.put]
    refine K23 _ ?_
    refine aq ?_
    refine bg rfl (by constructor) zN zS ?_
    exact vb (by
     have : ¬ (A.map (·.id)).Nodup := zp hy hr (by omega) hyr
     rw [← hA] at this
     simp only [fh, jk, decide_eq_false this, Bool.and_false, Bool.false_and])
   have hne : y.id ≠ r.id := of_decide_eq_false hc
   refine ay ?_
   refine K21 _ ?_
   refine yR ?_
   refine yM rfl rfl ?_
   refine aa rfl (ce rfl rfl rfl (by omega)) ?_
   refine yA rfl rfl ?_
   refine yN ?_
   dsimp only [St.put]
   exact ⟨k + 1, by omega, ⟨by omega, udu (p := fun y : bj => y.id ≠ r.id) hy hne hJ.2⟩, ⟨⟨rfl, rfl⟩, zF, zB, zN, zX⟩⟩
  replace hc := of_decide_eq_false hc
  have hki : k = i := by omega
  rw [hki] at hJ
  have hnd : r.id ∉ (A.take i).map (·.id) := fun hm => by
   obtain ⟨y, hy1, hy2⟩ := List.mem_map.1 hm
   exact hJ.2 y hy1 hy2
  refine dh ?_
  refine K13 _ ?_
  refine yR ?_
  refine yM rfl rfl ?_
  refine aa rfl (ce rfl rfl rfl (by omega)) ?_
  refine yA rfl rfl ?_
  refine yN ?_
  dsimp only [St.put]
  exact ⟨i + 1, by omega, ⟨by omega, by rw [qy hr, hI.2.1, hrb]; rfl, by rw [pg hr]; exact zq hI.2.2 hnd⟩, ⟨⟨rfl, rfl⟩, zF, zB, zN, zX⟩⟩
 replace hc := of_decide_eq_false hc
 have hRB : jk p = true := by
  have h1 := hI.2.1
  have h2 := hI.2.2
  rw [gm (show A.length ≤ i by omega), ← hA] at h1 h2
  unfold jk
  rw [h1, decide_eq_true h2, decide_eq_true s1, decide_eq_true s2]; rfl
 refine dh ?_
 refine K9 _ ?_
 refine yS fun _ K24 => ?_
 refine yR ?_
 refine yA rfl rfl ?_
 refine yN ?_
 dsimp only [St.put]
 refine K24 _ ?_
 refine yS fun _ K25 => ?_
 refine yS fun _ K26 => ?_
 refine yR ?_
 refine yA rfl rfl ?_
 refine yN ?_
 dsimp only [St.put]
 refine K26 _ ?_
 refine bh ?_
 refine cr 9 ?_
 refine zQ ?_
 refine dl (G) zX ?_
 dsimp only
 refine dj (X := Nat) (fun j => j ≤ p.pages.length ∧ qf p j = true) (fun j => p.pages.length - j) (fun j => [(6, .v (.int .i64 (gq p.pages j))), (7, .v (.int .i64 (j : Int))), (8, .any)]) (fun j G' => G') 0 rfl ?_ ?_ (fun _ _ h => h) ?_ ?_ ?_
 ·exact ⟨Nat.zero_le _, rfl⟩
 ·exact zF
 ·rintro j hI
  exact zL
 ·exact fun _ _ _ _ h => .inl h
 rintro j hK
 dsimp only at hK ⊢
 refine yS fun _ K27 => ?_
 refine yS fun _ K28 => ?_
 refine yR ?_
 refine yM rfl rfl ?_
 refine yF rfl rfl rfl rfl ?_
 refine yL rfl rfl rfl ?_
 refine aa rfl (bl rfl rfl (List.length_map _)) ?_
 refine aa rfl (cn rfl rfl rfl) ?_
 refine yN ?_
 dsimp only [St.put]
 refine K28 _ ?_
 refine av rfl (fun hc => ?_) (fun hc => ?_)
 ·replace hc := of_decide_eq_true hc
  obtain ⟨x, hx⟩ : ∃ x, p.pages[j]? = some x := dm (by omega)
  refine ay ?_
  refine K27 _ ?_
  refine yS fun _ K29 => ?_
  refine bh ?_
  refine yS fun _ K30 => ?_
  refine yR ?_
  refine yF rfl rfl rfl rfl ?_
  refine yL rfl rfl rfl ?_
  refine yM rfl rfl ?_
  refine aa rfl (bz rfl rfl rfl rfl (bw (by assumption)) (Enc.len _)) ?_
  refine yE rfl rfl rfl ?_
  try dsimp only [St.put]
  refine ae rfl (dd rfl ?_)
  try dsimp only [St.put]
  refine ae rfl (ct rfl rfl rfl zG rfl rfl (by rfl) ?_)
  refine yN ?_
  dsimp only [St.put]
  refine K30 _ ?_
  refine fl (i := 8) rfl zG zC ?_
  dsimp only
  refine yS fun _ K31 => ?_
  refine cr 9 ?_
  refine zQ ?_
  refine l7 (X := Bool) (fun d => mx p (gq p.pages j) x = !d) (fun d => [(120, .v (.bool d))]) (fun d G' => G') rfl ?_ (fun _ _ _ _ h => .inl h) ?_ ?_
  ·rintro d hI
   exact zL
  ·refine qv [(0, none), (1, none), (2, none), (3, none), (4, none), (5, none), (6, none), (7, none), (8, none), (9, none), (10, none), (11, none), (12, none), (13, none), (14, none), (15, none)] (fun _ => false) (fun i => [0, 2, 3, 4, 5, 7, 9, 10, 11, 12, 14].contains i) 23 (rl [16, 23]) (by kernel_rfl) (by kernel_rfl) ?_
   refine ah rfl rfl rfl rfl (cj rfl rfl rfl) ?_
   try dsimp only [St.put]
   refine aw rfl rfl rfl rfl (ca rfl rfl) ?_
   refine xM rfl rfl rfl rfl rfl ?_
   refine ah rfl rfl rfl rfl (t8 rfl rfl rfl) ?_
   refine j5 (fun hs => ?_) (fun hs => ?_)
   ·have z1 : x.fr ≤ gq p.pages j := of_decide_eq_true hs
    refine xM rfl rfl rfl rfl rfl ?_
    refine ak rfl rfl rfl ?_
    refine ak rfl rfl rfl ?_
    refine ak rfl rfl rfl ?_
    refine ak rfl rfl rfl ?_
    refine ak rfl rfl rfl ?_
    refine ah rfl rfl rfl rfl (bu rfl rfl (by constructor)) ?_
    refine xM rfl rfl rfl rfl rfl ?_
    refine ak rfl rfl rfl ?_
    refine ak rfl rfl rfl ?_
    refine ak rfl rfl rfl ?_
    refine ak rfl rfl rfl ?_
    refine cg ?_
    refine dr [16] (by kernel_rfl) (by simp) ?_
    refine dx ?_ ?_
    ·refine fy rfl rfl rfl ?_
     refine ef [(17, none), (18, none), (19, none), (20, none), (21, none), (22, none), (23, none), (24, none), (25, none)] (fun i => [17, 18, 19, 20, 22, 24, 25].contains i) 13 (rl [26, 13]) (by kernel_rfl) ?_
     refine ak rfl rfl rfl ?_
     refine ah rfl rfl rfl rfl (bu rfl rfl (by constructor)) ?_
     refine xM rfl rfl rfl rfl rfl ?_
     refine ak rfl rfl rfl ?_
     refine ak rfl rfl rfl ?_
     refine ak rfl rfl rfl ?_
     refine ak rfl rfl rfl ?_
     refine ak rfl rfl rfl ?_
     refine ak rfl rfl rfl ?_
     refine cg ?_
     refine dr [26] (by kernel_rfl) (by simp) ?_
     refine dx ?_ ?_
     ·refine fy rfl rfl rfl ?_
      refine ef [(27, none), (28, none), (29, none), (30, none), (31, none), (32, none), (33, none), (34, none), (35, none)] (fun i => [27, 28, 29, 30, 32, 34, 35].contains i) 3 (rl [36, 3]) (by kernel_rfl) ?_
      refine ak rfl rfl rfl ?_
      refine ah rfl rfl rfl rfl (bu rfl rfl (by constructor)) ?_
      refine xM rfl rfl rfl rfl rfl ?_
      refine ak rfl rfl rfl ?_
      refine ak rfl rfl rfl ?_
      refine ak rfl rfl rfl ?_
      refine ak rfl rfl rfl ?_
      refine ak rfl rfl rfl ?_
      refine ak rfl rfl rfl ?_
      refine cg ?_
      refine dr [36] (by kernel_rfl) (by simp) ?_
      refine dx ?_ ?_
      ·refine fy rfl rfl rfl ?_
       refine ef [(37, none), (38, none)] (fun i => [37, 38].contains i) 0 (rl [39]) (by kernel_rfl) ?_
       refine ak rfl rfl rfl ?_
       refine ah rfl rfl rfl rfl (bu rfl rfl (by constructor)) ?_
       refine cg ?_
       dsimp only [St.put]
       refine g8 (by kernel_rfl) ?_
       refine ⟨_, ?_, ⟨⟨rfl, rfl⟩, zF, zB, zN, zX⟩⟩
       simp_all [mx]
       try (intro h0; omega)
      exact dw
     exact dw
    exact dw
   have z1 : ¬ x.fr ≤ gq p.pages j := of_decide_eq_false hs
   refine xM rfl rfl rfl rfl rfl ?_
   refine ah rfl rfl rfl rfl (cj rfl rfl rfl) ?_
   try dsimp only [St.put]
   refine aw rfl rfl rfl rfl (ca rfl rfl) ?_
   refine ah rfl rfl rfl rfl (cj rfl rfl rfl) ?_
   try dsimp only [St.put]
   refine aw rfl rfl rfl rfl (ca rfl rfl) ?_
   refine ah rfl rfl rfl rfl (cn rfl rfl rfl) ?_
   refine j5 (fun hs => ?_) (fun hs => ?_)
   ·have z2 : x.to < x.fr := of_decide_eq_true hs
    refine ah rfl rfl rfl rfl (cm rfl rfl (by constructor)) ?_
    refine xM rfl rfl rfl rfl rfl ?_
    refine ak rfl rfl rfl ?_
    refine ak rfl rfl rfl ?_
    refine ak rfl rfl rfl ?_
    refine ak rfl rfl rfl ?_
    refine cg ?_
    refine dr [16] (by kernel_rfl) (by simp) ?_
    refine dx ?_ ?_
    ·refine fy rfl rfl rfl ?_
     refine ef [(17, none), (18, none), (19, none), (20, none), (21, none), (22, none), (23, none), (24, none), (25, none)] (fun i => [17, 18, 19, 20, 22, 24, 25].contains i) 13 (rl [26, 13]) (by kernel_rfl) ?_
     refine ak rfl rfl rfl ?_
     refine ah rfl rfl rfl rfl (bu rfl rfl (by constructor)) ?_
     refine xM rfl rfl rfl rfl rfl ?_
     refine ak rfl rfl rfl ?_
     refine ak rfl rfl rfl ?_
     refine ak rfl rfl rfl ?_
     refine ak rfl rfl rfl ?_
     refine ak rfl rfl rfl ?_
     refine ak rfl rfl rfl ?_
     refine cg ?_
     refine dr [26] (by kernel_rfl) (by simp) ?_
     refine dx ?_ ?_
     ·refine fy rfl rfl rfl ?_
      refine ef [(27, none), (28, none), (29, none), (30, none), (31, none), (32, none), (33, none), (34, none), (35, none)] (fun i => [27, 28, 29, 30, 32, 34, 35].contains i) 3 (rl [36, 3]) (by kernel_rfl) ?_
      refine ak rfl rfl rfl ?_
      refine ah rfl rfl rfl rfl (bu rfl rfl (by constructor)) ?_
      refine xM rfl rfl rfl rfl rfl ?_
      refine ak rfl rfl rfl ?_
      refine ak rfl rfl rfl ?_
      refine ak rfl rfl rfl ?_
      refine ak rfl rfl rfl ?_
      refine ak rfl rfl rfl ?_
      refine ak rfl rfl rfl ?_
      refine cg ?_
      refine dr [36] (by kernel_rfl) (by simp) ?_
      refine dx ?_ ?_
      ·refine fy rfl rfl rfl ?_
       refine ef [(37, none), (38, none)] (fun i => [37, 38].contains i) 0 (rl [39]) (by kernel_rfl) ?_
       refine ak rfl rfl rfl ?_
       refine ah rfl rfl rfl rfl (bu rfl rfl (by constructor)) ?_
       refine cg ?_
       dsimp only [St.put]
       refine g8 (by kernel_rfl) ?_
       refine ⟨_, ?_, ⟨⟨rfl, rfl⟩, zF, zB, zN, zX⟩⟩
       simp_all [mx]
       try (intro h0; omega)
      exact dw
     exact dw
    exact dw
   have z2 : ¬ x.to < x.fr := of_decide_eq_false hs
   refine ah rfl rfl rfl rfl (cm rfl rfl (by constructor)) ?_
   refine xM rfl rfl rfl rfl rfl ?_
   refine ah rfl rfl rfl rfl (cj rfl rfl rfl) ?_
   try dsimp only [St.put]
   refine aw rfl rfl rfl rfl (ca rfl rfl) ?_
   refine ah rfl rfl rfl rfl (cj rfl rfl rfl) ?_
   try dsimp only [St.put]
   refine aw rfl rfl rfl rfl (c := gl p.text) (ju (cs := cells p) rfl rfl (show 1 ≤ 4 by decide)) ?_
   refine cg ?_
   refine dr [16] (by kernel_rfl) (by simp) ?_
   refine dx ?_ ?_
   ·try dsimp only [St.put]
    refine iz rfl rfl rfl (ax rfl rfl rfl (ujr p.text ht) ?_)
    refine ef [(17, none), (18, none), (19, none), (20, none), (21, none), (22, none), (23, none), (24, none), (25, none)] (fun i => [17, 18, 19, 20, 22, 24, 25].contains i) 13 (rl [26, 13]) (by kernel_rfl) ?_
    refine ah rfl rfl rfl rfl (ov rfl rfl rfl) ?_
    refine j5 (fun hs => ?_) (fun hs => ?_)
    ·have z3 : (ms p.text : Int) ≤ x.to := of_decide_eq_true hs
     refine ah rfl rfl rfl rfl (cm rfl rfl (by constructor)) ?_
     refine xM rfl rfl rfl rfl rfl ?_
     refine ak rfl rfl rfl ?_
     refine ak rfl rfl rfl ?_
     refine ak rfl rfl rfl ?_
     refine ak rfl rfl rfl ?_
     refine ak rfl rfl rfl ?_
     refine ak rfl rfl rfl ?_
     refine cg ?_
     refine dr [26] (by kernel_rfl) (by simp) ?_
     refine dx ?_ ?_
     ·refine fy rfl rfl rfl ?_
      refine ef [(27, none), (28, none), (29, none), (30, none), (31, none), (32, none), (33, none), (34, none), (35, none)] (fun i => [27, 28, 29, 30, 32, 34, 35].contains i) 3 (rl [36, 3]) (by kernel_rfl) ?_
      refine ak rfl rfl rfl ?_
      refine ah rfl rfl rfl rfl (bu rfl rfl (by constructor)) ?_
      refine xM rfl rfl rfl rfl rfl ?_
      refine ak rfl rfl rfl ?_
      refine ak rfl rfl rfl ?_
      refine ak rfl rfl rfl ?_
      refine ak rfl rfl rfl ?_
      refine ak rfl rfl rfl ?_
      refine ak rfl rfl rfl ?_
      refine cg ?_
      refine dr [36] (by kernel_rfl) (by simp) ?_
      refine dx ?_ ?_
      ·refine fy rfl rfl rfl ?_
       refine ef [(37, none), (38, none)] (fun i => [37, 38].contains i) 0 (rl [39]) (by kernel_rfl) ?_
       refine ak rfl rfl rfl ?_
       refine ah rfl rfl rfl rfl (bu rfl rfl (by constructor)) ?_
       refine cg ?_
       dsimp only [St.put]
       refine g8 (by kernel_rfl) ?_
       refine ⟨_, ?_, ⟨⟨rfl, rfl⟩, zF, zB, zN, zX⟩⟩
       simp_all [mx]
       try (intro h0; omega)
      exact dw
     exact dw
    have z3 : ¬ (ms p.text : Int) ≤ x.to := of_decide_eq_false hs
    refine ah rfl rfl rfl rfl (cm rfl rfl (by constructor)) ?_
    refine xM rfl rfl rfl rfl rfl ?_
    refine ah rfl rfl rfl rfl (cj rfl rfl rfl) ?_
    try dsimp only [St.put]
    refine aw rfl rfl rfl rfl (ca rfl rfl) ?_
    refine ah rfl rfl rfl rfl (cj rfl rfl rfl) ?_
    try dsimp only [St.put]
    refine aw rfl rfl rfl rfl (ca rfl rfl) ?_
    refine ah rfl rfl rfl rfl (bl rfl rfl (List.length_map _)) ?_
    refine ah rfl rfl rfl rfl (iw rfl rfl rfl (by omega)) ?_
    refine cg ?_
    refine dr [26] (by kernel_rfl) (by simp) ?_
    refine dx ?_ ?_
    ·try dsimp only [St.put]
     refine iz rfl rfl rfl (ax rfl rfl rfl (rn _ _ _) ?_)
     refine ef [(27, none), (28, none), (29, none), (30, none), (31, none), (32, none), (33, none), (34, none), (35, none)] (fun i => [27, 28, 29, 30, 32, 34, 35].contains i) 3 (rl [36, 3]) (by kernel_rfl) ?_
     refine ah rfl rfl rfl rfl (d7 rfl rfl) ?_
     refine j5 (fun hs => ?_) (fun hs => ?_)
     ·have z4 : inB x.fst (-1) ((p.firsts.length : Int) - 1) = false := by simpa using hs
      refine ah rfl rfl rfl rfl (cm rfl rfl (by constructor)) ?_
      refine xM rfl rfl rfl rfl rfl ?_
      refine ak rfl rfl rfl ?_
      refine ak rfl rfl rfl ?_
      refine ak rfl rfl rfl ?_
      refine ak rfl rfl rfl ?_
      refine ak rfl rfl rfl ?_
      refine ak rfl rfl rfl ?_
      refine cg ?_
      refine dr [36] (by kernel_rfl) (by simp) ?_
      refine dx ?_ ?_
      ·refine fy rfl rfl rfl ?_
       refine ef [(37, none), (38, none)] (fun i => [37, 38].contains i) 0 (rl [39]) (by kernel_rfl) ?_
       refine ak rfl rfl rfl ?_
       refine ah rfl rfl rfl rfl (bu rfl rfl (by constructor)) ?_
       refine cg ?_
       dsimp only [St.put]
       refine g8 (by kernel_rfl) ?_
       refine ⟨_, ?_, ⟨⟨rfl, rfl⟩, zF, zB, zN, zX⟩⟩
       simp_all [mx]
       try (intro h0; omega)
      exact dw
     have z4 : inB x.fst (-1) ((p.firsts.length : Int) - 1) = true := by simpa using hs
     refine ah rfl rfl rfl rfl (cm rfl rfl (by constructor)) ?_
     refine xM rfl rfl rfl rfl rfl ?_
     refine ah rfl rfl rfl rfl (cj rfl rfl rfl) ?_
     try dsimp only [St.put]
     refine aw rfl rfl rfl rfl (ca rfl rfl) ?_
     refine ah rfl rfl rfl rfl (cj rfl rfl rfl) ?_
     try dsimp only [St.put]
     refine aw rfl rfl rfl rfl (ca rfl rfl) ?_
     refine ah rfl rfl rfl rfl (bl rfl rfl (List.length_map _)) ?_
     refine ah rfl rfl rfl rfl (iw rfl rfl rfl (by omega)) ?_
     refine cg ?_
     refine dr [36] (by kernel_rfl) (by simp) ?_
     refine dx ?_ ?_
     ·try dsimp only [St.put]
      refine iz rfl rfl rfl (ax rfl rfl rfl (rn _ _ _) ?_)
      refine ef [(37, none), (38, none)] (fun i => [37, 38].contains i) 0 (rl [39]) (by kernel_rfl) ?_
      refine ah rfl rfl rfl rfl (d7 rfl rfl) ?_
      refine j5 (fun hs => ?_) (fun hs => ?_)
      ·have z5 : inB x.snd (-1) ((p.seconds.length : Int) - 1) = false := by simpa using hs
       refine ah rfl rfl rfl rfl (cm rfl rfl (by constructor)) ?_
       refine cg ?_
       dsimp only [St.put]
       refine g8 (by kernel_rfl) ?_
       refine ⟨_, ?_, ⟨⟨rfl, rfl⟩, zF, zB, zN, zX⟩⟩
       simp_all [mx]
       try (intro h0; omega)
      have z5 : inB x.snd (-1) ((p.seconds.length : Int) - 1) = true := by simpa using hs
      refine ah rfl rfl rfl rfl (cm rfl rfl (by constructor)) ?_
      refine cg ?_
      dsimp only [St.put]
      refine g8 (by kernel_rfl) ?_
      refine ⟨_, ?_, ⟨⟨rfl, rfl⟩, zF, zB, zN, zX⟩⟩
      simp_all [mx]
      try (intro h0; omega)
     exact dw
    exact dw
   exact dw
  rintro d hst
  dsimp only at hst ⊢
  refine av rfl (fun hc => ?_) (fun hc => ?_)
  ·have hhd : mx p (gq p.pages j) x = false := by rw [hst, hc]; rfl
   refine yS fun _ K33 => ?_
   refine yR ?_
   refine yA rfl rfl ?_
   refine yN ?_
   dsimp only [St.put]
   refine K33 _ ?_
   refine aq ?_
   refine bg rfl (by constructor) zN zS ?_
   exact vb (v7 hx (by rw [v8, hhd]; rfl)).symm
  have hhd : mx p (gq p.pages j) x = true := by rw [hst, hc]; rfl
  refine ay ?_
  refine K31 _ ?_
  refine yS fun _ K34 => ?_
  refine yS fun _ K35 => ?_
  refine yR ?_
  refine yF rfl rfl rfl rfl ?_
  try dsimp only [St.put]
  refine bq rfl (c := gl p.text) (ju (cs := cells p) rfl rfl (show 1 ≤ 4 by decide)) ?_
  refine yE rfl rfl rfl ?_
  refine yF rfl rfl rfl rfl ?_
  refine yL rfl rfl rfl ?_
  refine yF rfl rfl rfl rfl ?_
  refine yL rfl rfl rfl ?_
  try dsimp only [St.put]
  refine ae rfl (ax rfl rfl rfl (ucj p.text x x.fst x.found ht) ?_)
  refine aa rfl (d7 rfl rfl) ?_
  refine eu (fun hs => ?_) (fun hs => ?_)
  ·have hf1 : gz p.text x x.fst x.found = false := by simpa using hs
   refine yM rfl rfl ?_
   refine yK rfl ?_
   refine yK rfl ?_
   refine yK rfl ?_
   refine yK rfl ?_
   refine yK rfl ?_
   refine yK rfl ?_
   refine yK rfl ?_
   refine yK rfl ?_
   refine yK rfl ?_
   refine aa rfl (bu rfl rfl (by constructor)) ?_
   refine yN ?_
   dsimp only [St.put]
   refine K35 _ ?_
   refine av rfl (fun _ => ?_) (fun h => by cases h)
   refine yS fun _ K36 => ?_
   refine yR ?_
   refine yA rfl rfl ?_
   refine yN ?_
   dsimp only [St.put]
   refine K36 _ ?_
   refine aq ?_
   refine bg rfl (by constructor) zN zS ?_
   exact vb (v7 hx (by rw [v8, hhd, hf1]; first | rfl | (rw [hf2]; rfl))).symm
  have hf1 : gz p.text x x.fst x.found = true := by simpa using hs
  refine yM rfl rfl ?_
  refine yF rfl rfl rfl rfl ?_
  try dsimp only [St.put]
  refine bq rfl (c := gl p.text) (ju (cs := cells p) rfl rfl (show 1 ≤ 4 by decide)) ?_
  refine yE rfl rfl rfl ?_
  refine yF rfl rfl rfl rfl ?_
  refine yL rfl rfl rfl ?_
  refine yF rfl rfl rfl rfl ?_
  refine yL rfl rfl rfl ?_
  try dsimp only [St.put]
  refine ae rfl (ax rfl rfl rfl (ucj p.text x x.snd x.well ht) ?_)
  refine aa rfl (d7 rfl rfl) ?_
  refine eu (fun hs => ?_) (fun hs => ?_)
  ·have hf2 : gz p.text x x.snd x.well = false := by simpa using hs
   refine aa rfl (cm rfl rfl (by constructor)) ?_
   refine yN ?_
   dsimp only [St.put]
   refine K35 _ ?_
   refine av rfl (fun _ => ?_) (fun h => by cases h)
   refine yS fun _ K37 => ?_
   refine yR ?_
   refine yA rfl rfl ?_
   refine yN ?_
   dsimp only [St.put]
   refine K37 _ ?_
   refine aq ?_
   refine bg rfl (by constructor) zN zS ?_
   exact vb (v7 hx (by rw [v8, hhd, hf1]; first | rfl | (rw [hf2]; rfl))).symm
  have hf2 : gz p.text x x.snd x.well = true := by simpa using hs
  refine aa rfl (cm rfl rfl (by constructor)) ?_
  refine yN ?_
  dsimp only [St.put]
  refine K35 _ ?_
  refine av rfl (fun h => by cases h) (fun _ => ?_)
  refine ay ?_
  refine K34 _ ?_
  refine yR ?_
  refine yF rfl rfl rfl rfl ?_
  refine yL rfl rfl rfl ?_
  refine yA rfl rfl ?_
  refine yN ?_
  dsimp only [St.put]
  refine K29 _ ?_
  refine yR ?_
  refine yM rfl rfl ?_
  refine aa rfl (ce rfl rfl rfl (by omega)) ?_
  refine yA rfl rfl ?_
  refine yN ?_
  dsimp only [St.put]
  rw [← ud8 hx]
  exact ⟨j + 1, by omega, ⟨by omega, by rw [ucv, hK.2, za hx, v8, hhd, hf1, hf2]; rfl⟩, ⟨⟨rfl, rfl⟩, zF, zB, zN, zX⟩⟩
 replace hc := of_decide_eq_false hc
 obtain rfl : j = p.pages.length := by omega
 refine dh ?_
 refine K25 _ ?_
 refine yS fun _ K38 => ?_
 refine yR ?_
 refine yA rfl rfl ?_
 refine yN ?_
 dsimp only [St.put]
 refine K38 _ ?_
 refine aq ?_
 refine bg rfl (by constructor) zN zS ?_
 exact vb (by unfold fh; rw [hRB, hK.2, decide_eq_true s3]; rfl)
end Go.Proofs.YtbbdginipiljdaaDoor
namespace Go.AB
open Go Go.RowKit
open Go.AB.Enc (cells)
open Go.PB (ar ai PlaceD az bf ba bj am af ci bi cy c6)
theorem qx {p : af} {n : Int} (h : d9 p n = 0) : cc p = 0 ∧ ∃ (j : Nat) (x : am), n = (j : Int) ∧ p.pages[j]? = some x ∧ mq p n = x := by
 unfold d9 at h
 by_cases hc : cc p = 0
 ·rw [decide_eq_true hc, cond_true] at h
  cases hb : inB n 0 ((p.pages.length : Int) - 1)
  ·rw [hb] at h; cases h
  rw [inB_true] at hb
  obtain ⟨x, hx⟩ : ∃ x, p.pages[n.toNat]? = some x := ⟨_, List.getElem?_eq_getElem (show n.toNat < p.pages.length by omega)⟩
  exact ⟨hc, n.toNat, x, by omega, hx, by unfold mq; rw [hx]; rfl⟩
 rw [decide_eq_false hc, cond_false] at h
 exact absurd h hc
end Go.AB
namespace Go.Proofs.YtbbdginipiljdaaDoor
set_option maxRecDepth 10000
open Go.RowKit Go.AB
open Go.AB.Enc (cells)
open Go.PB (ar ai PlaceD az bf ba bj am af ci bi cy c6)
theorem ujv (p : af) : Pure Tryd.prog 17 [val p] (.v (.int .i64 (cc p))) := by
 refine cz Tryd.func17 rfl (fun m => .v) fun G nx => ?_
 simp only [Tryd.ntmps17, List.length_cons, List.length_nil, Nat.reduceAdd, Nat.reduceSub]
 refine br fun hlt => ?_
 dsimp only at hlt
 refine yS fun _ K1 => ?_
 refine yR ?_
 try dsimp only [St.put]
 refine yB rfl rfl rfl ?_
 refine yA rfl rfl ?_
 refine yN ?_
 dsimp only [St.put]
 refine K1 _ ?_
 refine yS fun _ K2 => ?_
 refine yS fun _ K3 => ?_
 refine yR ?_
 refine yF rfl rfl rfl rfl ?_
 try dsimp only [St.put]
 refine bq rfl (c := gl p.text) (ju (cs := cells p) rfl rfl (show 1 ≤ 4 by decide)) ?_
 try dsimp only [St.put]
 refine ae rfl (ax rfl rfl rfl (upk p.text) ?_)
 refine yA rfl rfl ?_
 refine yN ?_
 dsimp only [St.put]
 refine K3 _ ?_
 refine yS fun _ K4 => ?_
 refine yR ?_
 refine yM rfl rfl ?_
 refine aa rfl (fu rfl rfl rfl) ?_
 refine yN ?_
 dsimp only [St.put]
 refine K4 _ ?_
 refine av rfl (fun hc => ?_) (fun hc => ?_)
 ·have ht : dp p.text = false := by
   have h0 := j8 hc
   unfold jd at h0
   cases h1 : dp p.text
   ·rfl
   rw [h1] at h0; exact absurd rfl h0
  refine yS fun _ K5 => ?_
  refine yR ?_
  refine yM rfl rfl ?_
  refine yA rfl rfl ?_
  refine yN ?_
  dsimp only [St.put]
  refine K5 _ ?_
  refine aq ?_
  refine bg rfl (by constructor) zN zS ?_
  exact vi (by simp [cc, jd, ht])
 have ht : dp p.text = true := by
  have h0 := ii hc
  unfold jd at h0
  cases h1 : dp p.text
  ·rw [h1] at h0; cases h0
  rfl
 refine ay ?_
 refine K2 _ ?_
 refine yS fun _ K6 => ?_
 refine yS fun _ K7 => ?_
 refine yR ?_
 refine yE rfl rfl rfl ?_
 try dsimp only [St.put]
 refine ae rfl (ax rfl rfl rfl (ujt p ht) ?_)
 refine aa rfl (d7 rfl rfl) ?_
 refine yN ?_
 dsimp only [St.put]
 refine K7 _ ?_
 refine av rfl (fun hc => ?_) (fun hc => ?_)
 ·have hp : fh p = false := by simpa using hc
  refine yS fun _ K8 => ?_
  refine yR ?_
  refine yA rfl rfl ?_
  refine yN ?_
  dsimp only [St.put]
  refine K8 _ ?_
  refine aq ?_
  refine bg rfl (by constructor) zN zS ?_
  exact vi (by simp [cc, ht, hp])
 have hp : fh p = true := by simpa using hc
 refine ay ?_
 refine K6 _ ?_
 refine yS fun _ K9 => ?_
 refine yR ?_
 refine yA rfl rfl ?_
 refine yN ?_
 dsimp only [St.put]
 refine K9 _ ?_
 refine aq ?_
 refine bg rfl (by constructor) zN zS ?_
 exact vi (by simp [cc, ht, hp])
end Go.Proofs.YtbbdginipiljdaaDoor
namespace Go.Proofs.YtbbdginipiljdaaDoor
set_option maxRecDepth 10000
open Go.RowKit Go.AB
open Go.AB.Enc (cells)
open Go.PB (ar ai PlaceD az bf ba bj am af ci bi cy c6)
end Go.Proofs.YtbbdginipiljdaaDoor
namespace Go.Proofs.YtbbdginipiljdaaDoor
set_option maxRecDepth 10000
open Go.RowKit Go.AB
open Go.AB.Enc (cells)
open Go.PB (ar ai PlaceD az bf ba bj am af ci bi cy c6)
end Go.Proofs.YtbbdginipiljdaaDoor
namespace Go.Proofs.YtbbdginipiljdaaDoor
set_option maxRecDepth 10000
open Go.RowKit Go.AB
open Go.AB.Enc (cells)
open Go.PB (ar ai PlaceD az bf ba bj am af ci bi cy c6)
end Go.Proofs.YtbbdginipiljdaaDoor
namespace Go.AB
open Go Go.RowKit
open Go.AB.Enc (cells)
open Go.PB (ar ai PlaceD az bf ba bj am af ci bi)
/-! ### First and second readers change their places -/
theorem uoi {p : af} (h : cc p = 0) {j : Nat} (hj : j < p.pages.length) : (bn (cv p)).alone (ck (cv p)) (dg (cv p)) j = (bn p).alone (ck p) (dg p) j := by
 have h1 := (j9 h).1
 have h2 := (j9 (qr h)).1
 have hx : p.pages[j]? = some p.pages[j] := List.getElem?_eq_getElem hj
 have hx' : (cv p).pages[j]? = some (em p.pages[j]) := by show (p.pages.map em)[j]? = _; rw [List.getElem?_map, hx]; rfl
 have hp := pageB_true.1 (h1.page j _ hx)
 have hL := qm p
 rw [uav]
 -- who reads the page, of both
 have e1 : ∀ i, i < p.seconds.length → (bn (cv p)).by j i = (bn p).by j (p.firsts.length + i) := fun i hi => by
  rw [xn h2 hx', xn h1 hx, show (cv p).firsts.length = p.seconds.length from rfl, decide_eq_true hi, decide_eq_false (show ¬ p.firsts.length + i < p.firsts.length by omega), cond_true, cond_false, Nat.add_sub_cancel_left]; rfl
 have e2 : ∀ i, i < p.firsts.length → (bn (cv p)).by j (p.seconds.length + i) = (bn p).by j i := fun i hi => by
  rw [xn h2 hx', xn h1 hx, show (cv p).firsts.length = p.seconds.length from rfl, decide_eq_true hi, decide_eq_false (show ¬ p.seconds.length + i < p.seconds.length by omega), cond_true, cond_false, Nat.add_sub_cancel_left]; rfl
 refine Int.le_antisymm (Net.le_alone.2 ?_) (Net.le_alone.2 ?_)
 ·have k := Net.le_alone.1 (Int.le_refl ((bn (cv p)).alone (ck (cv p)) (dg p) j))
  refine ⟨k.1, fun i hi => ?_⟩
  have hlt : i < cb p := (t7 h1).by_lt hi
  unfold cb at hlt
  by_cases q : i < p.firsts.length
  ·have := k.2 (p.seconds.length + i) (by rw [e2 i q]; exact hi)
   rwa [hL.2 i q] at this
  ·have e : p.firsts.length + (i - p.firsts.length) = i := by omega
   have := k.2 (i - p.firsts.length) (by rw [e1 _ (by omega), e]; exact hi)
   rwa [hL.1 _ (by omega), e] at this
 ·have k := Net.le_alone.1 (Int.le_refl ((bn p).alone (ck p) (dg p) j))
  refine ⟨k.1, fun i hi => ?_⟩
  have hlt : i < p.seconds.length + p.firsts.length := (t7 h2).by_lt hi
  by_cases q : i < p.seconds.length
  ·rw [hL.1 i q]
   exact k.2 _ (by rw [← e1 i q]; exact hi)
  ·have e : p.seconds.length + (i - p.seconds.length) = i := by omega
   rw [← e, hL.2 _ (by omega)]
   exact k.2 _ (by rw [← e2 _ (by omega), e]; exact hi)
theorem uo4 {p : af} (h : cc p = 0) (l : List Int) : u9 (cv p) l = u9 p l := by
 unfold u9
 rw [uav]
 exact udo h _
theorem unn {p : af} (h : cc p = 0) (m : Int) : i0 (cv p) m = i0 p m ∧ gw (cv p) m = gw p m := by
 have e1 : gw (cv p) m = gw p m := by unfold gw; rw [qr h, h, yc]
 have e2 : (cv p).pages.length = p.pages.length := List.length_map _
 have e3 : n5 (cv p) m = n5 p m := by
  funext s
  unfold n5
  rw [e2, uo4 h]
 exact ⟨by unfold i0; rw [e1, e2, e3], e1⟩
theorem uhs {p : af} (h : cc p = 0) : mn (cv p) = mn p ∧ eo (cv p) (cc (cv p)) = eo p (cc p) := by
 have e1 : eo (cv p) (cc (cv p)) = eo p (cc p) := by unfold eo; rw [qr h, h, yc]
 refine ⟨?_, e1⟩
 unfold mn yd
 rw [e1, uav, udo h]
/-! ### Errors that are missed -/
end Go.AB
namespace Go.AB
open Go Go.RowKit
open Go.AB.Enc (cells)
open Go.PB (ar ai PlaceD az bf ba bj am af ci bi cy c6)
def ru (R : Nat → Int) (c : Int) (l : List Int) : Int := l.foldl (fun n z => min n (R z.toNat)) c
def lv (R : Nat → Int) (n : Int) (l : List Int) : Nat → Int := l.foldl (fun R z => fun i => bif decide (i = z.toNat) then R z.toNat - n else R i) R
theorem uh3 (R : Nat → Int) (n : Int) : lv R n [] = R := rfl
theorem ulh {R : Nat → Int} {c : Int} {l : List Int} {k : Nat} {z : Int} (h : l[k]? = some z) : ru R c (l.take (k + 1)) = min (ru R c (l.take k)) (R z.toNat) := by
 unfold ru; rw [List.take_add_one, h, Option.toList_some, List.foldl_append]; rfl
theorem uh2 {R : Nat → Int} {n : Int} {l : List Int} {k : Nat} {z : Int} (h : l[k]? = some z) : lv R n (l.take (k + 1)) = fun i => bif decide (i = z.toNat) then lv R n (l.take k) z.toNat - n else lv R n (l.take k) i := by
 unfold lv; rw [List.take_add_one, h, Option.toList_some, List.foldl_append]; rfl
theorem uoj {p : af} {j : Nat} {x : am} (hx : p.pages[j]? = some x) (R C : Nat → Int) : (bn p).alone R C j = ru R (C j) (di p x) := by
 simp only [Net.alone, bn, hx, di, ru]
 by_cases q1 : 0 ≤ x.fst <;> by_cases q2 : 0 ≤ x.snd
 ·simp [q1, q2, ow, show ((p.firsts.length : Int) + x.snd).toNat = p.firsts.length + x.snd.toNat by omega]
 ·simp [q1, q2, ow]
 ·simp [q1, q2, ow, show ((p.firsts.length : Int) + x.snd).toNat = p.firsts.length + x.snd.toNat by omega]
 ·simp [q1, q2, ow]
theorem ulv {p : af} (h : fg p) {j : Nat} {x : am} (hx : p.pages[j]? = some x) (R : Nat → Int) (n : Int) : (bn p).lessR R j n = lv R n (di p x) := by
 have hp := pageB_true.1 (h.page j x hx)
 have h1 := hp.fst
 have h2 := hp.snd
 funext i
 simp only [Net.lessR, Net.by, bn, hx, di, lv]
 by_cases q1 : 0 ≤ x.fst <;> by_cases q2 : 0 ≤ x.snd
 ·have e2 : ((p.firsts.length : Int) + x.snd).toNat = p.firsts.length + x.snd.toNat := by omega
  have hne : ¬ p.firsts.length + x.snd.toNat = x.fst.toNat := by omega
  rw [decide_eq_true q1, decide_eq_true q2]
  simp only [cond_true, List.cons_append, List.nil_append, List.foldl_cons, List.foldl_nil, e2, Option.some.injEq]
  by_cases z1 : i = x.fst.toNat
  ·have z2 : ¬ i = p.firsts.length + x.snd.toNat := by omega
   simp [z1.symm, z2, Ne.symm z2]
  ·by_cases z2 : i = p.firsts.length + x.snd.toNat
   ·simp [z1, Ne.symm z1, z2, hne, Ne.symm hne]
   ·simp [z1, Ne.symm z1, z2, Ne.symm z2]
 ·rw [decide_eq_true q1, decide_eq_false q2]
  simp only [cond_true, cond_false, List.append_nil, List.foldl_cons, List.foldl_nil, Option.some.injEq]
  by_cases z1 : i = x.fst.toNat
  ·simp [z1]
  ·simp [z1, Ne.symm z1]
 ·have e2 : ((p.firsts.length : Int) + x.snd).toNat = p.firsts.length + x.snd.toNat := by omega
  rw [decide_eq_false q1, decide_eq_true q2]
  simp only [cond_true, cond_false, List.nil_append, List.foldl_cons, List.foldl_nil, e2, Option.some.injEq]
  by_cases z2 : i = p.firsts.length + x.snd.toNat
  ·simp [z2]
  ·simp [z2, Ne.symm z2]
 ·rw [decide_eq_false q1, decide_eq_false q2]
  simp
theorem ua0 {p : af} {R C : Nat → Int} (hB : Bd p R C) {j : Nat} {n : Int} (h0 : 0 ≤ n) (hn : n ≤ (bn p).alone R C j) : Bd p ((bn p).lessR R j n) (ed C j) := by
 refine ⟨fun i => ?_, fun k => ?_, hB.nr, hB.np⟩
 ·unfold Net.lessR
  cases hb : (bn p).by j i
  ·exact hB.r i
  ·have h1 := (Net.le_alone.1 hn).2 i hb
   have h2 := hB.r i
   show -1000000 ≤ R i - n ∧ R i - n ≤ 1000000
   omega
 ·unfold ed
  cases decide (k = j)
  ·exact hB.c k
  ·exact ⟨Int.le_refl _, by show (0 : Int) ≤ 1000000; omega⟩
/-- what is above has been looked at -/
def FromTop (p : af) (R C : Nat → Int) (j : Nat) (n : Int) : Prop := (bn p).pick R C j ≤ n ∧ n ≤ (bn p).alone R C j ∧ ∀ m, n < m → m ≤ (bn p).alone R C j → ¬ (bn p).most R C ≤ m + (bn p).most ((bn p).lessR R j m) (ed C j)
theorem FromTop.start {p : af} {R C : Nat → Int} {j : Nat} (h : (bn p).Pick R C j ((bn p).pick R C j)) : FromTop p R C j ((bn p).alone R C j) := ⟨h.le, Int.le_refl _, fun m h1 h2 => by omega⟩
theorem FromTop.stop {p : af} {R C : Nat → Int} {j : Nat} {n : Int} (h : (bn p).Pick R C j ((bn p).pick R C j)) (k : FromTop p R C j n) (hs : (bn p).most R C ≤ n + (bn p).most ((bn p).lessR R j n) (ed C j)) : n = (bn p).pick R C j :=
 Net.Pick.uniq ⟨Int.le_trans h.nn k.1, k.2.1, hs, k.2.2⟩ h
theorem FromTop.down {p : af} {R C : Nat → Int} {j : Nat} {n : Int} (h : (bn p).Pick R C j ((bn p).pick R C j)) (k : FromTop p R C j n) (hs : ¬ (bn p).most R C ≤ n + (bn p).most ((bn p).lessR R j n) (ed C j)) : FromTop p R C j (n - 1) := by
 refine ⟨?_, by have := k.2.1; omega, fun m h1 h2 => ?_⟩
 ·have h1 := k.1
  by_cases e : n = (bn p).pick R C j
  ·subst e
   exact absurd h.ok hs
  ·omega
 ·by_cases e : m = n
  ·subst e; exact hs
  ·exact k.2.2 m (by omega) h2
end Go.AB
namespace Go.AB
open Go Go.RowKit
open Go.AB.Enc (cells)
section
variable {P : Program} {o : Oper} {st : St} {K : St → Prop}
/-- An empty slice that is built: owned. -/
theorem ux {t e : TypeId} {sz bytes : Nat} [AppT P t e sz bytes] (ho : o.op = .buildSlice t 0 #[]) (hsz1 : 1 ≤ sz) (h : K (St.put { st with G := aj st.G st.nx (.arr 0 0 e sz 0 []), nx := st.nx + 1 } o.dst (.own st.nx 0 0))) : EStep P o st K :=
 ki fun E w a hsim => by
  obtain ⟨ht, i, z, hie, hz, h1, h2, h3⟩ := AppT.spec (P := P) (t := t) (e := e) (sz := sz) (bytes := bytes)
  obtain ⟨ob, hob⟩ : ∃ ob, ob = Obj.cells #[] e := ⟨_, rfl⟩
  have hev := Ev.laid hsim.g (o := ob) 0 (.inl rfl)
  have hg := SimG.laid hsim.g (o := ob) 0 (.inl rfl)
  have hnew : (w.alloc ob).heap[w.heap.size]? = some ob := r8 w ob
  have hsz : (w.alloc ob).heap.size = w.heap.size + 1 := by simp
  have hold : ∀ n tt b, (E.lay w.heap.size 0).T n = some tt → blk tt.2.2 = some b → b < w.heap.size := fun n tt b h5 h6 => (hsim.g.tb n _ _ _ b h5 h6).2
  have hnx := hsim.g.nx
  have hfr : ∀ b o', blk (.slice (some ⟨w.heap.size, 0, none⟩) 0 0) = some b → w.heap[b]? = some o' → False := fun b o' hbk ho' => by
   simp only [blk, Option.some.injEq] at hbk
   subst hbk
   have := (Array.getElem?_eq_some_iff.1 ho').1
   omega
  have hev2 := hev.thenName (.slice (some ⟨w.heap.size, 0, none⟩) 0 0) hfr
  have hg2 := SimG.name hg (.slice (some ⟨w.heap.size, 0, none⟩) 0 0) (.arr 0 0 e sz 0 []) (fun b hbk => by
   simp only [blk, Option.some.injEq] at hbk
   subst hbk
   exact ⟨hsim.g.base, by rw [hsz]; omega, fun n tt h5 h6 => absurd (hold n tt _ h5 h6) (by omega)⟩) (by
   refine ⟨.slice (some ⟨w.heap.size, 0, none⟩) 0 0, [], ?_, ⟨by simp, .inr ⟨w.heap.size, 0, _, rfl, hsim.g.base, hnew.trans (by rw [hob]), Nat.le_refl _, Nat.zero_le _, by simp, by simp⟩⟩, fun c hc => (by cases hc), Rs.nil, fun b hbk => ?_, hsz1⟩
   ·simp [Env.name, Env.lay, hnx]
   ·simp only [blk, Option.some.injEq] at hbk
    subst hbk
    simp [Env.name, Env.lay])
  refine ⟨.slice (some ⟨w.heap.size, 0, none⟩) 0 0, w.alloc ob, _, _, _, .own st.nx 0 0, ?_, hev2, ?_, hg2, h⟩
  ·subst hob
   simp [execOp, ho, Instr.buildSlice, run_underlying ht, sizeOf, typeInfo, hie, Instr.fill, newRow, newObj, Sem.run, show (Array.map (fun _ => (default : Value)) (Array.range 0)) = #[] from by simp]
  ·refine R.own (by simp [Env.name, Env.lay]; omega) (Nat.le_refl _) (Nat.zero_le _) fun ver wv val htt => ?_
   simp only [Env.name, Env.lay, hnx, if_true, Option.some.injEq, Prod.mk.injEq] at htt
   obtain ⟨rfl, rfl, rfl⟩ := htt
   exact ⟨Nat.le_refl _, fun _ => ⟨_, Nat.le_refl _, rfl⟩⟩
end
end Go.AB
namespace Go.AB
open Go Go.RowKit
open Go.AB.Enc (cells)
variable {ρ : Option Nat}
section
variable {P : Program} {Q : Exit → St → Prop} {st : St}
theorem Back.simN {E0 E' : Env} {w0 w' : World} {a0 a' : Act} {st' : St} {u : List (Nat × C)} {g : Nat → Option GObj} {M : Nat} (h0 : Sim E0 w0 st a0) (hr : st.r = []) (hM : st.nx ≤ M) (hb : Back { st with nx := M } u g st') (hu : pi M u) (hg : ∀ n o, g n = some o → st.G n = some o ∨ (n < M ∧ o.low M))
  (hev : Ev E0 w0 E' w') (hs : Sim E' w' st' a') : Ev E0 w0 (E'.drop M) w' ∧ Sim (E'.drop M) w' { st with r := u, G := g, nx := M } a' := by
 have h1 := h0.g.nx
 refine ⟨hev.drop (by omega), ?_⟩
 have hlow : ∀ i, i < st.n → (bk st.l u i).low M := fun i hi => by
  rcases un st.l u i with ⟨p, hp, _, he⟩ | ⟨_, he⟩
  ·rw [he]; exact uab hu p hp
  ·rw [he]
   have := h0.low i hi
   rw [hr] at this
   exact C.low.mono this hM
 have hcl : ∀ i, bk st.l u i = .any ∨ bk st.l u i = bk st'.l st'.r i := fun i => by
  by_cases hi : i < st.l.length
  ·rcases xf _ _ hb.fits i (Nat.zero_le _) (by show i < 0 + st.l.length; omega) with h | h
   ·exact .inl h
   ·exact .inr h.symm
  ·rcases un st.l u i with ⟨p, hp, he, he2⟩ | ⟨_, he⟩
   ·rcases hb.keys with hk | hk
    ·have h2 : p.1 < st.l.length := w4 hk p hp
     omega
    ·rcases xe hk p hp with h | h
     ·left; rw [he2, h]
     ·right; rw [he2, ← h, he]
   ·left; rw [he, List.getD_eq_getElem?_getD, List.getElem?_eq_none (by omega)]; rfl
 refine hs.dropTo (st' := { st with r := u, G := g, nx := M }) hb.n.1.symm hb.n.2.symm hb.nx (fun i hi => ?_) fun n o ho => ⟨hb.G n o ho, ?_⟩
 ·rcases hcl i with h2 | h2
  ·exact .inl h2
  ·exact .inr ⟨h2, hlow i (hb.n.1 ▸ hi)⟩
 ·rcases hg n o ho with h2 | h2
  ·have := h0.lowG n o h2
   exact ⟨by have := this.1; show n < M; omega, GObj.low_mono this.2 hM⟩
  ·exact h2
end
section
variable {P : Program} {o : Oper} {st : St} {K : St → Prop}
end
end Go.AB
namespace Go.AB
open Go Go.RowKit
theorem uod {ρ : Option Nat} {P : Program} {Q : Exit → St → Prop} {st : St} {X : Type} {x y : Code} (I : X → Prop) (u : X → List (Nat × C)) (g : X → (Nat → Option GObj) → Nat → Option GObj) (N : X → Nat) (hr : st.r = [])
  (hN : ∀ x, I x → st.nx ≤ N x) (hu : ∀ x, I x → pi (N x) (u x)) (hg : ∀ x, I x → ∀ n o, g x st.G n = some o → st.G n = some o ∨ (n < N x ∧ o.low (N x)))
  (h1 : AW ρ P x (o7 (fun st' => ∃ x', I x' ∧ Back { st with nx := N x' } (u x') (g x' st.G) st') Q) st) (h2 : ∀ x', I x' → AW ρ P y Q { st with r := u x', G := g x' st.G, nx := N x' }) : AW ρ P (.seq x y) Q st := by
 intro E w a hs
 refine wpIn_seq (ib ?_ (h1 E w a hs))
 rintro e a' w' ⟨st', E', q1, q2, q3⟩
 cases e with
 | normal =>
  obtain ⟨x', h5, h6⟩ := q3
  obtain ⟨h7, h8⟩ := Back.simN hs hr (hN x' h5) h6 (hu x' h5) (hg x' h5) q1 q2
  exact ib (fun _ _ _ hq => mu h7 hq) (h2 x' h5 _ w' a' h8)
 | _ => exact ⟨st', E', q1, q2, q3⟩
/-- What stands in a slot is known less well. -/
theorem xp {ρ : Option Nat} {P : Program} {Q : Exit → St → Prop} {st : St} {x : Code} (i : Nat) {c : C} (c' : C) (h0 : st.at i = c) (hw : Wk c c') (h : AW ρ P x Q { st with r := (i, c') :: st.r }) : AW ρ P x Q st := by
 intro E w a hs
 have hp := hs.at i
 rw [h0] at hp
 refine h E w a ⟨hs.d, hs.sz, fun j v hj => ?_, hs.g⟩
 simp only [bk]
 cases hb : Nat.beq i j
 ·exact hs.t j v hj
 ·have hij := Nat.eq_of_beq_eq_true hb
  subst hij
  have hv : a.tmps.getD i undef = v := by rw [Array.getD_eq_getD_getElem?, hj]; rfl
  rw [hv] at hp
  exact hw.2 _ _ _ hp
end Go.AB
namespace Go.AB
open Go Go.RowKit
open Go.AB.Enc (cells)
open Go.PB (ar ai PlaceD az bf ba bj am af ci bi cy c6)
theorem umt {l : List Int} {k : Nat} {z : Int} (h : l[k]? = some z) : (bv l)[k]? = some (.v (.int .i64 z)) := by
 have e : bv l = l.map fun y => .v (.int .i64 y) := by
  clear h
  induction l with
  | nil => rfl
  | cons y l ih =>
   have h1 : bv (y :: l) = cells y ++ bv l := by simp [bv]
   rw [h1, ih]; rfl
 rw [e, List.getElem?_map, h]; rfl
end Go.AB
namespace Go.Proofs.YtbbdginipiljdaaDoor
set_option maxRecDepth 10000
open Go.RowKit Go.AB
open Go.AB.Enc (cells)
open Go.PB (ar ai PlaceD az bf ba bj am af ci bi cy c6)
theorem y7 {p : af} (h : fg p) {j : Nat} {x : am} (hx : p.pages[j]? = some x) {k : Nat} (hk : k < (di p x).length) : ∃ zn : Nat, (di p x)[k]? = some (zn : Int) ∧ zn < cb p := by
 have hp := pageB_true.1 (h.page j x hx)
 have h1 := hp.fst
 have h2 := hp.snd
 obtain ⟨z, hz⟩ : ∃ z, (di p x)[k]? = some z := ⟨_, List.getElem?_eq_getElem hk⟩
 have hm := List.mem_of_getElem? hz
 have hb : 0 ≤ z ∧ z < (cb p : Int) := by
  unfold di at hm
  unfold cb
  rw [List.mem_append] at hm
  rcases hm with hm | hm
  ·by_cases q : 0 ≤ x.fst
   ·rw [decide_eq_true q, cond_true, List.mem_singleton] at hm; omega
   rw [decide_eq_false q] at hm; cases hm
  by_cases q : 0 ≤ x.snd
  ·rw [decide_eq_true q, cond_true, List.mem_singleton] at hm; omega
  rw [decide_eq_false q] at hm; cases hm
 exact ⟨z.toNat, by rw [hz]; congr 1; omega, by omega⟩
end Go.Proofs.YtbbdginipiljdaaDoor
namespace Go.AB
open Go Go.RowKit
open Go.AB.Enc (cells)
open Go.PB (ar ai PlaceD az bf ba bj am af ci bi cy c6)
theorem ufy (r : Int) (s i : Nat) : r * ((s / 2 ^ i % 2 : Nat) : Int) = bif s.testBit i then r else 0 := by
 have h2 : s / 2 ^ i % 2 < 2 := Nat.mod_lt _ (by omega)
 cases hb : s.testBit i
 ·have : s / 2 ^ i % 2 = 0 := by
   have : ¬ ((s / 2 ^ i % 2 : Nat) : Int) = 1 := fun e => by
    have := bit_eq.1 e
    rw [hb] at this; cases this
   omega
  rw [this]; simp
 have : s / 2 ^ i % 2 = 1 := by have := bit_eq.2 hb; omega
 rw [this]; simp
theorem un5 (s i : Nat) : decide (((s / 2 ^ i % 2 : Nat) : Int) = 1) = s.testBit i := by
 rw [Bool.eq_iff_iff, decide_eq_true_eq]
 exact bit_eq
theorem ujm {p : af} (h : fg p) {j : Nat} {x : am} (hx : p.pages[j]? = some x) {z : Int} (hz : z ∈ di p x) : ∃ zn : Nat, z = (zn : Int) ∧ zn ≤ 6 := by
 obtain ⟨k, hk⟩ := List.getElem?_of_mem hz
 obtain ⟨zn, h1, h2⟩ := ujl h hx (List.getElem?_eq_some_iff.1 hk).1
 rw [hk] at h1
 cases h1
 exact ⟨zn, rfl, h2⟩
theorem v6 {p : af} {j : Nat} {x : am} (hx : p.pages[j]? = some x) : (p.pages.map (di p))[j]? = some (di p x) := by rw [List.getElem?_map, hx]; rfl
end Go.AB
namespace Go.Proofs.YtbbdginipiljdaaDoor
set_option maxRecDepth 10000
open Go.RowKit Go.AB
open Go.AB.Enc (cells)
open Go.PB (ar ai PlaceD az bf ba bj am af ci bi cy c6)
theorem ukh (k s : Nat) (hk : k ≤ 64) (hs : s ≤ 1000) : Pure Tryd.prog 91 [.v (.int .i64 (k : Int)), .elem [.v (.int .i64 (s : Int))]] (.v (.bool (s.testBit k))) := by
 refine cz Tryd.func91 rfl (fun m => .v) fun G nx => ?_
 simp only [Tryd.ntmps91, List.length_cons, List.length_nil, Nat.reduceAdd, Nat.reduceSub]
 refine br fun hlt => ?_
 dsimp only at hlt
 refine yS fun _ K1 => ?_
 refine yR ?_
 refine yA rfl rfl ?_
 refine yN ?_
 dsimp only [St.put]
 refine K1 _ ?_
 refine yS fun _ K2 => ?_
 refine yR ?_
 refine yL rfl rfl rfl ?_
 refine yM rfl rfl ?_
 refine aa rfl (zr (m := s) (n := k) rfl rfl rfl hk (by show (s : Int) ≤ 9223372036854775807; omega) (by decide)) ?_
 refine aa rfl (zz (m := s / 2 ^ k) rfl rfl rfl (Nat.lt_of_le_of_lt (Nat.div_le_self _ _) (by show s < 2 ^ 64; omega)) (by decide)) ?_
 refine aa rfl (fj rfl rfl rfl) ?_
 refine yA rfl rfl ?_
 refine yN ?_
 dsimp only [St.put]
 refine K2 _ ?_
 refine aq ?_
 refine bg rfl (by constructor) zN zS ?_
 exact vb (un5 s k)
set_option maxHeartbeats 1000000 in
theorem ucx (p : af) (R C : Nat → Int) (s : Nat) (h : fg p) (hB : Bd p R C) (hs : s ≤ 1000) : Pure Tryd.prog 68 [val (f5 p R C), .v (.int .i64 (s : Int))] (.v (.int .i64 ((bn p).f R C fun i => s.testBit i))) := by
 refine cz Tryd.func68 rfl (fun m => .v) fun G nx => ?_
 simp only [Tryd.ntmps68, List.length_cons, List.length_nil, Nat.reduceAdd, Nat.reduceSub]
 refine br fun hlt => ?_
 dsimp only at hlt
 have hnr := hB.nr
 have hnp := hB.np
 have hl1 := jq (cb p) R
 have hl2 := jq p.pages.length C
 refine yS fun _ K1 => ?_
 refine yR ?_
 try dsimp only [St.put]
 refine yB rfl rfl rfl ?_
 try dsimp only [St.put]
 refine yB rfl rfl rfl ?_
 refine yA rfl rfl ?_
 refine yN ?_
 dsimp only [St.put]
 refine K1 _ ?_
 refine yS fun _ K2 => ?_
 refine yR ?_
 refine yA rfl rfl ?_
 refine yN ?_
 dsimp only [St.put]
 refine K2 _ ?_
 refine yS fun _ K3 => ?_
 refine yS fun _ K4 => ?_
 refine yR ?_
 refine yF rfl rfl rfl rfl ?_
 refine yL rfl rfl rfl ?_
 refine aa rfl (bl rfl rfl (List.length_map _)) ?_
 refine yM rfl rfl ?_
 refine yN ?_
 dsimp only [St.put]
 refine K4 _ ?_
 refine bh ?_
 refine cr 14 ?_
 refine zQ ?_
 refine dl (G) zX ?_
 dsimp only
 refine dj (X := Nat) (fun i => i ≤ cb p) (fun i => cb p - i) (fun i => [(5, .v (.int .i64 (fR R (fun i => s.testBit i) i))), (6, .any), (7, .any), (13, .v (.int .i64 (i : Int)))]) (fun i G' => G') 0 rfl ?_ ?_ (fun _ _ h => h) ?_ ?_ ?_
 ·exact Nat.zero_le _
 ·exact zF
 ·rintro i hI
  exact zL
 ·exact fun _ _ _ _ h => .inl h
 rintro i hI
 dsimp only at hI ⊢
 refine yS fun _ K5 => ?_
 refine yR ?_
 refine aa rfl (cn rfl rfl rfl) ?_
 refine yN ?_
 dsimp only [St.put]
 refine K5 _ ?_
 refine yS fun _ K6 => ?_
 refine av rfl (fun hc => ?_) (fun hc => ?_)
 ·replace hc := of_decide_eq_true hc
  have hi : i < cb p := by
   have : (i : Int) < ((co (cb p) R).length : Int) := hc
   rw [hl1] at this
   omega
  have hRi := ni R hi
  have hbd := uao hB (fun i => s.testBit i) i (by omega)
  have hrb := hB.r i
  have hmb : -1000000 ≤ R i * ((s / 2 ^ i % 2 : Nat) : Int) ∧ R i * ((s / 2 ^ i % 2 : Nat) : Int) ≤ 1000000 := by
   rw [ufy]
   cases s.testBit i
   ·show -1000000 ≤ (0 : Int) ∧ (0 : Int) ≤ 1000000
    omega
   exact hrb
  refine ay ?_
  refine K6 _ ?_
  refine yS fun _ K7 => ?_
  refine bh ?_
  refine yS fun _ K8 => ?_
  refine yR ?_
  refine yM rfl rfl ?_
  refine aa rfl (bz rfl rfl rfl rfl (bw (by assumption)) (Enc.len _)) ?_
  refine yL rfl rfl rfl ?_
  refine yA rfl rfl ?_
  refine yA rfl rfl ?_
  refine yN ?_
  dsimp only [St.put]
  refine K8 _ ?_
  refine yR ?_
  refine yM rfl rfl ?_
  refine yM rfl rfl ?_
  refine yL rfl rfl rfl ?_
  refine yM rfl rfl ?_
  refine aa rfl (zr (m := s) (n := i) rfl rfl rfl (by show i ≤ 64; omega) (by show (s : Int) ≤ 9223372036854775807; omega) (by decide)) ?_
  refine aa rfl (zz (m := s / 2 ^ i) rfl rfl rfl (Nat.lt_of_le_of_lt (Nat.div_le_self _ _) (by show s < 2 ^ 64; omega)) (by decide)) ?_
  refine aa rfl (zv rfl rfl rfl (by omega)) ?_
  refine aa rfl (ce rfl rfl rfl (by omega)) ?_
  refine yA rfl rfl ?_
  refine yN ?_
  dsimp only [St.put]
  refine K7 _ ?_
  refine yR ?_
  refine aa rfl (ce rfl rfl rfl (by omega)) ?_
  refine yM rfl rfl ?_
  refine yN ?_
  dsimp only [St.put]
  rw [ufy, ← umy R (fun i => s.testBit i) i]
  exact ⟨i + 1, by omega, by omega, ⟨⟨rfl, rfl⟩, zF, zB, zN, zX⟩⟩
 replace hc := of_decide_eq_false hc
 obtain rfl : i = cb p := by
  have : ¬ (i : Int) < ((co (cb p) R).length : Int) := hc
  rw [hl1] at this
  omega
 have hfr := uao hB (fun i => s.testBit i) _ (Nat.le_refl (cb p))
 obtain ⟨FR, hFR⟩ : ∃ FR, fR R (fun i => s.testBit i) (cb p) = FR := ⟨_, rfl⟩
 rw [hFR] at hfr
 refine dh ?_
 refine K3 _ ?_
 refine yS fun _ K9 => ?_
 refine yS fun _ K10 => ?_
 refine yR ?_
 refine yF rfl rfl rfl rfl ?_
 refine yL rfl rfl rfl ?_
 refine aa rfl (bl rfl rfl (List.length_map _)) ?_
 refine yM rfl rfl ?_
 refine yN ?_
 dsimp only [St.put]
 rw [hFR, show FR = FR + fC p C (fun i => s.testBit i) 0 by show FR = FR + 0; omega]
 refine K10 _ ?_
 refine bh ?_
 refine cr 31 ?_
 refine zQ ?_
 refine dl (G) zX ?_
 dsimp only
 refine dj (X := Nat) (fun j => j ≤ p.pages.length) (fun j => p.pages.length - j) (fun j => [(5, .v (.int .i64 (FR + fC p C (fun i => s.testBit i) j))), (8, .any), (9, .any), (30, .v (.int .i64 (j : Int)))]) (fun j G' => G') 0 rfl ?_ ?_ (fun _ _ h => h) ?_ ?_ ?_
 ·exact Nat.zero_le _
 ·exact zF
 ·rintro j hI
  exact zL
 ·exact fun _ _ _ _ h => .inl h
 rintro j hJ
 dsimp only at hJ ⊢
 refine yS fun _ K11 => ?_
 refine yR ?_
 refine aa rfl (cn rfl rfl rfl) ?_
 refine yN ?_
 dsimp only [St.put]
 refine K11 _ ?_
 refine yS fun _ K12 => ?_
 refine av rfl (fun hc => ?_) (fun hc => ?_)
 ·replace hc := of_decide_eq_true hc
  have hj : j < p.pages.length := by
   have : (j : Int) < ((co p.pages.length C).length : Int) := hc
   rw [hl2] at this
   omega
  obtain ⟨x, hx⟩ : ∃ x, p.pages[j]? = some x := dm hj
  have hrx := v6 hx
  have hCj := ni C hj
  have hcb := hB.c j
  have hfc := ue2 hB (fun i => s.testBit i) j (by omega)
  have hhit := umi hx fun i => s.testBit i
  refine ay ?_
  refine K12 _ ?_
  refine yS fun _ K13 => ?_
  refine bh ?_
  refine yS fun _ K14 => ?_
  refine yR ?_
  refine yM rfl rfl ?_
  refine aa rfl (bz rfl rfl rfl rfl (bw (by assumption)) (Enc.len _)) ?_
  refine yL rfl rfl rfl ?_
  refine yA rfl rfl ?_
  refine yA rfl rfl ?_
  refine yN ?_
  dsimp only [St.put]
  refine K14 _ ?_
  refine yS fun _ K15 => ?_
  refine yR ?_
  refine yF rfl rfl rfl rfl ?_
  refine yL rfl rfl rfl ?_
  refine yM rfl rfl ?_
  refine aa rfl (bz rfl rfl rfl rfl (bw (by assumption)) (Enc.len _)) ?_
  refine yL rfl rfl rfl ?_
  refine aa rfl (qi rfl rfl) ?_
  try dsimp only [St.put]
  refine ae rfl (ax rfl rfl rfl (xy (di p x) (fun z => s.testBit z.toNat) _ _ fun z hz => by obtain ⟨zn, rfl, h6⟩ := ujm h hx hz; exact ukh zn s (by omega) hs) ?_)
  refine aa rfl (d7 rfl rfl) ?_
  refine yN ?_
  dsimp only [St.put]
  refine K15 _ ?_
  refine av rfl (fun hc => ?_) (fun hc => ?_)
  ·have hhn : (bn p).hit (fun i => s.testBit i) j = false := by rw [hhit]; simpa using hc
   refine yR ?_
   refine yM rfl rfl ?_
   refine yM rfl rfl ?_
   refine aa rfl (ce rfl rfl rfl (by omega)) ?_
   refine yA rfl rfl ?_
   refine yN ?_
   dsimp only [St.put]
   refine K13 _ ?_
   refine yR ?_
   refine aa rfl (ce rfl rfl rfl (by omega)) ?_
   refine yM rfl rfl ?_
   refine yN ?_
   dsimp only [St.put]
   have e := ue1 p C (fun i => s.testBit i) j
   first
   | (have z : (bn p).hit (fun i => s.testBit i) j = true := hhy
      rw [z, cond_true, Int.add_zero] at e
      rw [← e]
      exact ⟨j + 1, by omega, by omega, ⟨⟨rfl, rfl⟩, zF, zB, zN, zX⟩⟩)
   | (have z : (bn p).hit (fun i => s.testBit i) j = false := hhn
      rw [z, cond_false] at e
      rw [Int.add_assoc, ← e]
      exact ⟨j + 1, by omega, by omega, ⟨⟨rfl, rfl⟩, zF, zB, zN, zX⟩⟩)
  have hhy : (bn p).hit (fun i => s.testBit i) j = true := by rw [hhit]; simpa using hc
  refine ay ?_
  refine K13 _ ?_
  refine yR ?_
  refine aa rfl (ce rfl rfl rfl (by omega)) ?_
  refine yM rfl rfl ?_
  refine yN ?_
  dsimp only [St.put]
  have e := ue1 p C (fun i => s.testBit i) j
  first
  | (have z : (bn p).hit (fun i => s.testBit i) j = true := hhy
     rw [z, cond_true, Int.add_zero] at e
     rw [← e]
     exact ⟨j + 1, by omega, by omega, ⟨⟨rfl, rfl⟩, zF, zB, zN, zX⟩⟩)
  | (have z : (bn p).hit (fun i => s.testBit i) j = false := hhn
     rw [z, cond_false] at e
     rw [Int.add_assoc, ← e]
     exact ⟨j + 1, by omega, by omega, ⟨⟨rfl, rfl⟩, zF, zB, zN, zX⟩⟩)
 replace hc := of_decide_eq_false hc
 obtain rfl : j = p.pages.length := by
  have : ¬ (j : Int) < ((co p.pages.length C).length : Int) := hc
  rw [hl2] at this
  omega
 refine dh ?_
 refine K9 _ ?_
 refine yS fun _ K16 => ?_
 refine yR ?_
 refine yM rfl rfl ?_
 refine yA rfl rfl ?_
 refine yN ?_
 dsimp only [St.put]
 refine K16 _ ?_
 refine aq ?_
 refine bg rfl (by constructor) zN zS ?_
 exact vi (by rw [uex, hFR])
set_option maxHeartbeats 1000000 in
theorem tw (p : af) (R C : Nat → Int) (h : fg p) (hB : Bd p R C) : Pure Tryd.prog 58 [val (f5 p R C)] (.v (.int .i64 ((bn p).most R C))) := by
 refine cz Tryd.func58 rfl (fun m => .v) fun G nx => ?_
 simp only [Tryd.ntmps58, List.length_cons, List.length_nil, Nat.reduceAdd, Nat.reduceSub]
 refine br fun hlt => ?_
 dsimp only at hlt
 have hnr := hB.nr
 have hl1 := jq (cb p) R
 have h64 : 2 ^ cb p ≤ 2 ^ 6 := Nat.pow_le_pow_right (by omega) hnr
 have hpos : 0 < 2 ^ cb p := Nat.two_pow_pos _
 obtain ⟨g, hg⟩ : ∃ g : Nat → Int, (fun s => (bn p).f R C fun i => s.testBit i) = g := ⟨_, rfl⟩
 have hgs : ∀ s : Nat, (bn p).f R C (fun i => s.testBit i) = g s := fun s => congrFun hg s
 have hP : ∀ s : Nat, s ≤ 1000 → Pure Tryd.prog 68 [val (f5 p R C), .v (.int .i64 (s : Int))] (.v (.int .i64 (g s))) := fun s hs => by
  have := ucx p R C s h hB hs
  rwa [hgs] at this
 have hgb : ∀ s, -6000000 ≤ g s ∧ g s ≤ 14000000 := fun s => by rw [← hgs]; exact f_bd hB _
 refine yS fun _ K1 => ?_
 refine yR ?_
 try dsimp only [St.put]
 refine yB rfl rfl rfl ?_
 refine yA rfl rfl ?_
 refine yN ?_
 dsimp only [St.put]
 refine K1 _ ?_
 refine yS fun _ K2 => ?_
 refine yR ?_
 try dsimp only [St.put]
 refine bq rfl (c := val (f5 p R C)) (ju (cs := cells (f5 p R C)) rfl rfl (show 3 ≤ 3 by decide)) ?_
 try dsimp only [St.put]
 refine ae rfl (ax rfl rfl rfl (hP 0 (by omega)) ?_)
 refine yA rfl rfl ?_
 refine yN ?_
 dsimp only [St.put]
 refine K2 _ ?_
 refine yS fun _ K3 => ?_
 refine yS fun _ K4 => ?_
 refine yR ?_
 refine yF rfl rfl rfl rfl ?_
 refine yL rfl rfl rfl ?_
 refine aa rfl (bl rfl rfl (List.length_map _)) ?_
 refine aa rfl (udi (n := (co (cb p) R).length) rfl rfl rfl (by rw [hl1]; omega)) ?_
 refine yM rfl rfl ?_
 refine yN ?_
 dsimp only [St.put]
 refine K4 _ ?_
 refine bh ?_
 refine cr 12 ?_
 refine zQ ?_
 refine dl (G) zX ?_
 dsimp only
 refine dj (X := Nat) (fun s => s ≤ 2 ^ cb p) (fun s => 2 ^ cb p - s) (fun s => [(3, .v (.int .i64 (mh g s))), (4, .any), (11, .v (.int .i64 (s : Int)))]) (fun s G' => G') 0 rfl ?_ ?_ (fun _ _ h => h) ?_ ?_ ?_
 ·exact Nat.zero_le _
 ·exact zF
 ·rintro s hI
  exact zL
 ·exact fun _ _ _ _ h => .inl h
 rintro s hI
 dsimp only at hI ⊢
 refine yS fun _ K5 => ?_
 refine yR ?_
 refine aa rfl (cn rfl rfl rfl) ?_
 refine yN ?_
 dsimp only [St.put]
 refine K5 _ ?_
 refine yS fun _ K6 => ?_
 refine av rfl (fun hc => ?_) (fun hc => ?_)
 ·replace hc := of_decide_eq_true hc
  have hlt : s < 2 ^ cb p := by
   have : (s : Int) < ((2 ^ (co (cb p) R).length : Nat) : Int) := hc
   rw [hl1] at this
   omega
  have hmb := udt hgb s
  have hgb1 := hgb s
  refine ay ?_
  refine K6 _ ?_
  refine yS fun _ K7 => ?_
  refine bh ?_
  refine yS fun _ K8 => ?_
  refine yR ?_
  refine yM rfl rfl ?_
  refine yA rfl rfl ?_
  refine yN ?_
  dsimp only [St.put]
  refine K8 _ ?_
  refine yR ?_
  refine yM rfl rfl ?_
  try dsimp only [St.put]
  refine bq rfl (c := val (f5 p R C)) (ju (cs := cells (f5 p R C)) rfl rfl (show 3 ≤ 3 by decide)) ?_
  refine yM rfl rfl ?_
  try dsimp only [St.put]
  refine ae rfl (ax rfl rfl rfl (hP s (by omega)) ?_)
  refine aa rfl (udl rfl rfl rfl rfl) ?_
  refine yA rfl rfl ?_
  refine yN ?_
  dsimp only [St.put]
  refine K7 _ ?_
  refine yR ?_
  refine aa rfl (ce rfl rfl rfl (by omega)) ?_
  refine yM rfl rfl ?_
  refine yN ?_
  dsimp only [St.put]
  rw [show min (mh g s) (g s) = mh g (s + 1) from rfl]
  exact ⟨s + 1, by omega, by omega, ⟨⟨rfl, rfl⟩, zF, zB, zN, zX⟩⟩
 replace hc := of_decide_eq_false hc
 obtain rfl : s = 2 ^ cb p := by
  have : ¬ (s : Int) < ((2 ^ (co (cb p) R).length : Nat) : Int) := hc
  rw [hl1] at this
  omega
 refine dh ?_
 refine K3 _ ?_
 refine yS fun _ K9 => ?_
 refine yR ?_
 refine yM rfl rfl ?_
 refine yA rfl rfl ?_
 refine yN ?_
 dsimp only [St.put]
 refine K9 _ ?_
 refine aq ?_
 refine bg rfl (by constructor) zN zS ?_
 exact vi (by unfold Net.most; rw [hg]; rfl)
theorem ucy (p : af) (R C : Nat → Int) (j : Nat) (x : am) (h : fg p) (hx : p.pages[j]? = some x) : Pure Tryd.prog 66 [val (f5 p R C), .v (.int .i64 (j : Int))] (.v (.int .i64 ((bn p).alone R C j))) := by
 refine cz Tryd.func66 rfl (fun m => .v) fun G nx => ?_
 simp only [Tryd.ntmps66, List.length_cons, List.length_nil, Nat.reduceAdd, Nat.reduceSub]
 refine br fun hlt => ?_
 dsimp only at hlt
 have hjl := (List.getElem?_eq_some_iff.1 hx).1
 have hCj := ni C hjl
 have hrx := v6 hx
 have hn1 := h.nf
 have hn2 := h.ns
 have hnr : cb p = p.firsts.length + p.seconds.length := rfl
 have hrl := y8 p x
 refine yS fun _ K1 => ?_
 refine yR ?_
 try dsimp only [St.put]
 refine yB rfl rfl rfl ?_
 refine yA rfl rfl ?_
 refine yN ?_
 dsimp only [St.put]
 refine K1 _ ?_
 refine yS fun _ K2 => ?_
 refine yR ?_
 refine yF rfl rfl rfl rfl ?_
 refine yL rfl rfl rfl ?_
 refine yM rfl rfl ?_
 refine aa rfl (bz rfl rfl rfl rfl (bw (by assumption)) (Enc.len _)) ?_
 refine yL rfl rfl rfl ?_
 refine yA rfl rfl ?_
 refine yN ?_
 dsimp only [St.put]
 refine K2 _ ?_
 refine yS fun _ K3 => ?_
 refine yS fun _ K4 => ?_
 refine yR ?_
 refine yF rfl rfl rfl rfl ?_
 refine yL rfl rfl rfl ?_
 refine yM rfl rfl ?_
 refine aa rfl (bz rfl rfl rfl rfl (bw (by assumption)) (Enc.len _)) ?_
 refine yL rfl rfl rfl ?_
 refine aa rfl (bl rfl rfl (List.length_map _)) ?_
 refine yM rfl rfl ?_
 refine yN ?_
 dsimp only [St.put]
 refine K4 _ ?_
 refine bh ?_
 refine cr 20 ?_
 refine zQ ?_
 refine dl (G) zX ?_
 dsimp only
 refine dj (X := Nat) (fun k => k ≤ (di p x).length) (fun k => (di p x).length - k) (fun k => [(5, .v (.int .i64 (ru R (C j) ((di p x).take k)))), (7, .any), (19, .v (.int .i64 (k : Int)))]) (fun k G' => G') 0 rfl ?_ ?_ (fun _ _ h => h) ?_ ?_ ?_
 ·exact Nat.zero_le _
 ·exact zF
 ·rintro k hI
  exact zL
 ·exact fun _ _ _ _ h => .inl h
 rintro k hI
 dsimp only at hI ⊢
 refine yS fun _ K5 => ?_
 refine yR ?_
 refine aa rfl (cn rfl rfl rfl) ?_
 refine yN ?_
 dsimp only [St.put]
 refine K5 _ ?_
 refine yS fun _ K6 => ?_
 refine av rfl (fun hc => ?_) (fun hc => ?_)
 ·replace hc := of_decide_eq_true hc
  obtain ⟨zn, hz, hz6⟩ := y7 h hx (k := k) (by omega)
  have hRz := ni R hz6
  refine ay ?_
  refine K6 _ ?_
  refine yS fun _ K7 => ?_
  refine bh ?_
  refine yS fun _ K8 => ?_
  refine yR ?_
  refine aa rfl (bz rfl rfl rfl rfl (bw (by assumption)) (Enc.len _)) ?_
  refine yL rfl rfl rfl ?_
  refine yA rfl rfl ?_
  refine yN ?_
  dsimp only [St.put]
  refine K8 _ ?_
  refine yR ?_
  refine yM rfl rfl ?_
  refine yF rfl rfl rfl rfl ?_
  refine yL rfl rfl rfl ?_
  refine yM rfl rfl ?_
  refine aa rfl (bz rfl rfl rfl rfl (bw (by assumption)) (Enc.len _)) ?_
  refine yL rfl rfl rfl ?_
  refine aa rfl (udl rfl rfl rfl rfl) ?_
  refine yA rfl rfl ?_
  refine yN ?_
  dsimp only [St.put]
  refine K7 _ ?_
  refine yR ?_
  refine aa rfl (ce rfl rfl rfl (by omega)) ?_
  refine yM rfl rfl ?_
  refine yN ?_
  dsimp only [St.put]
  have e := ulh (R := R) (c := C j) hz
  rw [Int.toNat_natCast] at e
  rw [← e]
  exact ⟨k + 1, by omega, by omega, ⟨⟨rfl, rfl⟩, zF, zB, zN, zX⟩⟩
 replace hc := of_decide_eq_false hc
 refine dh ?_
 refine K3 _ ?_
 refine yS fun _ K9 => ?_
 refine yR ?_
 refine yM rfl rfl ?_
 refine yA rfl rfl ?_
 refine yN ?_
 dsimp only [St.put]
 refine K9 _ ?_
 refine aq ?_
 refine bg rfl (by constructor) zN zS ?_
 exact vi (by rw [gm (show (di p x).length ≤ k by omega), uoj hx])
end Go.Proofs.YtbbdginipiljdaaDoor
namespace Go.AB
open Go Go.RowKit
/-- what an operation waits for -/
def mz (o : Oper) : List Nat := (o.after.toList.filter fun e => Region.binds .any e).map (·.on)
def nv (l : List Bool) : Nat := (l.filter fun b => !b).length
theorem wh : ∀ {l : List Bool} {i : Nat}, l[i]? = some false → nv (l.set i true) + 1 = nv l
 | [], i, h => by simp at h
 | b :: l, 0, h => by
  simp only [List.getElem?_cons_zero, Option.some.injEq] at h
  subst h
  simp [nv]
 | b :: l, i + 1, h => by
  simp only [List.getElem?_cons_succ] at h
  have ih := wh h
  unfold nv at ih ⊢
  cases b
  ·simp only [List.set_cons_succ, List.filter_cons, Bool.not_false, if_true, List.length_cons]; omega
  ·simp only [List.set_cons_succ, List.filter_cons, Bool.not_true, Bool.false_eq_true, if_false]; omega
theorem udc {l : List Bool} (h : nv l = 0) (i : Nat) : l[i]? ≠ some false := fun e => by
 have := wh e
 omega
theorem y6 {ol : List Oper} {l : List Bool} {i : Nat} (h : i ∈ Region.ready .any ol.toArray l.toArray) (hl : l.length = ol.length) : ∃ o, ol[i]? = some o ∧ l[i]? = some false ∧ ∀ j ∈ mz o, l[j]? = some true := by
 unfold Region.ready at h
 simp only [List.mem_filter, List.mem_range, List.size_toArray, Bool.and_eq_true, Bool.not_eq_true'] at h
 obtain ⟨h1, h2, h3⟩ := h
 obtain ⟨o, ho⟩ : ∃ o, ol[i]? = some o := ⟨_, List.getElem?_eq_getElem h1⟩
 refine ⟨o, ho, ?_, fun j hj => ?_⟩
 ·have e := List.getElem?_eq_getElem (l := l) (i := i) (by omega)
  rw [Array.getD_eq_getD_getElem?, List.getElem?_toArray, e] at h2
  rw [e, ← h2]; rfl
 ·rw [List.getElem?_toArray, ho] at h3
  simp only [Option.map_some, Option.getD_some] at h3
  rw [← Array.all_toList, List.all_eq_true] at h3
  unfold mz at hj
  obtain ⟨e, he, rfl⟩ := List.mem_map.1 hj
  obtain ⟨he1, he2⟩ := List.mem_filter.1 he
  have := h3 e he1
  rw [he2, Bool.not_true, Bool.false_or, Array.getD_eq_getD_getElem?, List.getElem?_toArray] at this
  cases hb : l[e.on]? with
  | none => rw [hb] at this; cases this
  | some b => rw [hb] at this; rw [show b = true from this]
section
variable {P : Program} {ol : List Oper} {K : St → Prop} {late : Nat → Bool}
/-- one operation of what is left, by what holds behind it -/
def AOneI (P : Program) (ol : List Oper) (I : List Bool → St → Prop) (l : List Bool) (i : Nat) (st : St) : Prop :=
 ∃ o, ol[i]? = some o ∧ ((ei ol.toArray st o = some true ∧ EStep P o st (I (l.set i true))) ∨ (ei ol.toArray st o = some false ∧ I (l.set i true) (st.put o.dst (.tup []))))
/-- whether each operation waits only for earlier ones -/
def uo (ol : List Oper) : Bool := (List.range ol.length).all fun i => ((ol[i]?).map fun o => (mz o).all fun j => decide (j < i)).getD true
theorem y5 {l : List Bool} (hf : uo ol = true) (hl : l.length = ol.length) (h : Region.ready .any ol.toArray l.toArray = []) : ∀ i, i < ol.length → l[i]? = some true := by
 intro i
 induction i using Nat.strongRecOn with
 | _ i ih =>
  intro hi
  obtain ⟨o, ho⟩ : ∃ o, ol[i]? = some o := ⟨_, List.getElem?_eq_getElem hi⟩
  have e := List.getElem?_eq_getElem (l := l) (i := i) (by omega)
  cases hb : l[i]'(by omega) with
  | true => rw [e, hb]
  | false =>
   exfalso
   have hm : i ∈ Region.ready .any ol.toArray l.toArray := by
    unfold Region.ready
    simp only [List.mem_filter, List.mem_range, List.size_toArray, Bool.and_eq_true, Bool.not_eq_true']
    refine ⟨hi, by rw [Array.getD_eq_getD_getElem?, List.getElem?_toArray, e, hb]; rfl, ?_⟩
    rw [List.getElem?_toArray, ho]
    simp only [Option.map_some, Option.getD_some]
    rw [← Array.all_toList, List.all_eq_true]
    intro e1 he1
    cases hq : Region.binds .any e1 with
    | false => rfl
    | true =>
     rw [Bool.not_true, Bool.false_or, Array.getD_eq_getD_getElem?, List.getElem?_toArray]
     have hj : e1.on ∈ mz o := List.mem_map.2 ⟨e1, List.mem_filter.2 ⟨he1, hq⟩, rfl⟩
     have h1 := List.all_eq_true.1 hf i (List.mem_range.2 hi)
     rw [ho] at h1
     simp only [Option.map_some, Option.getD_some, List.all_eq_true] at h1
     have hlt := of_decide_eq_true (h1 _ hj)
     rw [ih _ hlt (by omega)]; rfl
   rw [h] at hm
   cases hm
theorem ua4 (I : List Bool → St → Prop) (hf : uo ol = true) (hl : ∀ l st, I l st → l.length = ol.length)
  (hs : ∀ l st i o, I l st → ol[i]? = some o → l[i]? = some false → (∀ j ∈ mz o, l[j]? = some true) → AOneI P ol I l i st)
  (he : ∀ l st, I l st → (∀ i, i < ol.length → l[i]? = some true) → K st) : ∀ (fuel : Nat) (l : List Bool) (st : St), I l st → nv l = fuel → ma P ol K late fuel l st
 | 0, l, st, hI, h0 => by
  have hr : Region.ready .any ol.toArray l.toArray = [] := by
   cases h : Region.ready .any ol.toArray l.toArray with
   | nil => rfl
   | cons i is =>
    obtain ⟨o, _, h2, _⟩ := y6 (i := i) (by rw [h]; exact List.mem_cons_self ..) (hl l st hI)
    exact absurd h2 (udc h0 i)
  exact g8 (by rw [hr]; rfl) (he l st hI (y5 hf (hl l st hI) hr))
 | fuel + 1, l, st, hI, h0 => by
  cases h : Region.ready .any ol.toArray l.toArray with
  | nil => exact g8 (by rw [h]; rfl) (he l st hI (y5 hf (hl l st hI) h))
  | cons i is =>
   refine dr (i :: is) (by rw [h]; exact beq_self_eq_true _) (by simp) ?_
   have hall : ∀ js : List Nat, (∀ j ∈ js, j ∈ Region.ready .any ol.toArray l.toArray) → sw P ol K late fuel l st js := by
    intro js
    induction js with
    | nil => intro _; trivial
    | cons j js ih =>
     intro hjs
     refine ⟨?_, ih fun k hk => hjs k (List.mem_cons_of_mem _ hk)⟩
     obtain ⟨o, ho, h2, h3⟩ := y6 (hjs j (List.mem_cons_self ..)) (hl l st hI)
     have hn : nv (l.set j true) = fuel := by have := wh h2; omega
     obtain ⟨o', ho', hc⟩ := hs l st j o hI ho h2 h3
     refine ⟨o', ho', ?_⟩
     rcases hc with ⟨hg, hE⟩ | ⟨hg, hE⟩
     ·exact .inl ⟨hg, hE.mono fun st' h' => ua4 I hf hl hs he fuel _ _ h' hn⟩
     ·exact .inr ⟨hg, ua4 I hf hl hs he fuel _ _ hE hn⟩
   exact hall (i :: is) fun j hj => by rw [h]; exact hj
end
theorem ukm {w : World} {B B' : Nat} {tt : TypeId} {sz len : Nat} {val : Value} {us us' : List Value} (h : w.ownsRow B tt sz val len us) (k : w.ownsRow B' tt sz val len us') : us = us' := by
 obtain ⟨l1, h1⟩ := h
 obtain ⟨l2, h2⟩ := k
 rcases h1 with ⟨e, h0⟩ | ⟨g, cap, cur, e, _, hh, _, _, _, ht⟩
 ·subst h0
  rw [Nat.zero_mul] at l1 l2
  rw [List.length_eq_zero_iff.1 l1, List.length_eq_zero_iff.1 l2]
 ·rcases h2 with ⟨e', _⟩ | ⟨g', cap', cur', e', _, hh', _, _, _, ht'⟩
  ·rw [e] at e'; cases e'
  ·rw [e] at e'
   cases e'
   rw [hh] at hh'
   cases hh'
   rw [← ht, ← ht']
/-- an own slice laid for good, as a cell of another one holds it -/
theorem uf9 {P : Program} {ρ : Option Nat} {Q : Exit → St → Prop} {st : St} {c : Code} {α : Type} [Enc α] (m off : Nat) {n ver wv wm len sz verm szm lenm : Nat} {tt ttm : TypeId} {cs ds : List C} (xs : List α) (hM : st.G m = some (.arr verm wm ttm szm lenm ds)) (h0 : ds[off]? = some (.own n ver len)) (hG : st.G n = some (.arr ver wv tt sz len cs)) (hnm : m ≠ n) (hsz : sz = Enc.n α) (hcs : cs = bv xs) (hlen : len = xs.length) (h : AW ρ P c Q { st with G := aj (mj st.G n) m (.arr verm wm ttm szm lenm (ds.set off (lst xs))) }) : AW ρ P c Q st := by
 intro E w a hs
 obtain ⟨E', hE, hg', hl⟩ := zi hs.g xs hG hsz hcs hlen
 obtain ⟨val, us, hT, how, hone, hr, hL, hpos⟩ := hg'.obj m (.arr verm wm ttm szm lenm ds) (by rw [l6 hnm]; exact hM)
 obtain ⟨val2, us2, hT2, how2, _, hr2, _, _⟩ := hs.g.obj m _ hM
 have hs2 := hs.evd hE hg'
 have hTT : val = val2 := by
  obtain ⟨ver1, wv1, val1, q1, q2, q3⟩ := hE.T m (hs.g.lt m _ hT2) _ _ _ hT
  rw [hT2] at q1
  simp only [Option.some.injEq, Prod.mk.injEq] at q1
  obtain ⟨rfl, rfl, rfl⟩ := q1
  exact (q3 rfl).1.symm
 subst hTT
 have e1 : us = us2 := ukm how how2
 subst e1
 refine ib (fun _ _ _ hq => mu hE hq) (h E' w a ⟨hs.d.ev hE, hs.sz, hs2.t, ⟨hg'.nx, fun k o ho => ?_, hg'.lt, hg'.tb, hg'.ap, hg'.fresh, hg'.base⟩⟩)
 simp only [aj] at ho
 split at ho
 ·rename_i ek
  subst ek
  simp only [Option.some.injEq] at ho
  subst ho
  refine ⟨val, us, hT, how, fun d hd => ?_, ⟨by rw [hr.1]; simp, fun j d v hd hv => ?_⟩, hL, hpos⟩
  ·rcases List.mem_or_eq_of_mem_set hd with hd | rfl
   ·exact hone d hd
   ·rfl
  ·rw [List.getElem?_set] at hd
   split at hd
   ·rename_i ej
    subst ej
    split at hd
    ·simp only [Option.some.injEq] at hd
     subst hd
     exact hl v (hr2.2 off _ v h0 hv)
    ·cases hd
   ·exact hr.2 j d v hd hv
 ·exact hg'.obj k o ho
theorem ucn {cs : List C} {i : Nat} {c c0 : C} (h : cs[i]? = some c0) : (putAt cs i [c]).set i c0 = cs := by
 have hl := (List.getElem?_eq_some_iff.1 h).1
 show (cs.set i c).set i c0 = cs
 rw [List.set_set]
 obtain rfl := Option.some.inj ((List.getElem?_eq_getElem hl).symm.trans h)
 exact List.set_getElem_self hl
end Go.AB
namespace Go.AB
open Go Go.RowKit
variable {ρ : Option Nat}
section
variable {P : Program} {ops : Array Oper} {Q : Exit → Act → World → Prop} {S : World → Prop} {late : Nat → Bool}
/-- Values alone: whatever has come up. -/
theorem ugx {S2 : World → Prop} (fin : Act → World → Prop) (fuel : Nat) (hs : Region.noSelect ops = true) (hQ : ∀ (o : Option Tmp) (v : Value) c a w, Q (.panic c) (a.put o v) w → Q (.panic c) a w) :
  ∀ (π : List (Nat × Option Nat)) (listed : Array Bool) (a : Act) (w : World), Closed .any ops listed → m7 ops late (fun _ => true) π listed = true →
   (∀ a, fin a w → iq P .any ops Q S late fuel (l5 π listed) a w) → gi P ops (jj fin) S2 late (fun _ => false) (fun _ => true) π a w → iq P .any ops Q S late (ge π + fuel) listed a w := by
 intro π
 induction π with
 | nil =>
  intro listed a w _ _ hf h
  have := hf a h
  simpa [ge, l5] using this
 | cons p rest ih =>
  obtain ⟨i, m⟩ := p
  intro listed a w hcl hc hf h
  cases m with
  | some j => simp [m7] at hc
  | none =>
   simp only [m7, Bool.and_eq_true] at hc
   obtain ⟨⟨⟨⟨hready, hfree⟩, hsome⟩, hlate⟩, hc2⟩ := hc
   simp only [gi, Bool.false_eq_true, if_false] at h
   cases ho : ops[i]? with
   | none => rw [ho] at hsome; cases hsome
   | some o =>
    rw [ho] at h
    obtain ⟨v, hy, hrest⟩ := h
    have hi : i ∈ Region.ready .any ops listed := by simpa using hready
    have hrec := ih _ _ _ (hcl.set hi) hc2 hf hrest
    have hp : ge ((i, none) :: rest) + fuel = ge rest + fuel + 1 := by simp only [ge]; omega
    rw [hp]
    simp only [if_true] at hy
    exact s7 (depth := ops.size) (fun _ => True) ho (Region.noSelect_spec hs) (fun c a w => hQ o.dst v c a w) (.inl fun _ => trivial) (ge rest + fuel) listed a w hcl (Region.free_spec ho hfree) hi hy trivial hrec
end
section
variable (P : Program) (ol : List Oper) (K : St → Prop) (D : List Nat) (late : Nat → Bool)
/-- What is left, in whatever order; b: something late has come up. -/
def ll (b : Bool) (fuel : Nat) (listed : List Bool) (st : St) : Prop :=
 ∀ (E0 : Env) (w0 : World) (Q : Act → World → Prop), (∀ a' w' st' E', Ev E0 w0 E' w' → Sim E' w' st' a' → K st' → Q a' w') →
  ∀ E1 w1 a, Ev E0 w0 E1 w1 → Sim E1 w1 st a → (b = false → ∀ n ∈ D, E1.T n = E0.T n) → iq P .any ol.toArray (jj Q) (Keeps E0 (· ∈ D) w0) late fuel listed.toArray a w1
def xz (b : Bool) (fuel : Nat) (listed : List Bool) (i : Nat) (st : St) : Prop :=
 ∃ o, ol[i]? = some o ∧ ei ol.toArray st o = some true ∧ ((b = false ∧ EStep P o st fun st' => n7 D st st' ∧ ll P ol K D late false fuel (listed.set i true) st') ∨ (late i = true ∧ EStep P o st (ll P ol K D late true fuel (listed.set i true))))
def sv (b : Bool) (fuel : Nat) (listed : List Bool) (st : St) : List Nat → Prop
 | [] => True
 | i :: is => xz P ol K D late b fuel listed i st ∧ sv b fuel listed st is
end
section
variable {P : Program} {ol : List Oper} {K : St → Prop} {D : List Nat} {late : Nat → Bool} {b : Bool} {fuel : Nat} {listed : List Bool} {st : St} {i : Nat} {is : List Nat} {o : Oper} {c : C}
theorem sn : sv P ol K D late b fuel listed st [] := trivial
theorem sq (h : xz P ol K D late b fuel listed i st) (k : sv P ol K D late b fuel listed st is) : sv P ol K D late b fuel listed st (i :: is) := ⟨h, k⟩
theorem sj (hL : late i = true) (hol : ol[i]? = some o) (hg : ei ol.toArray st o = some true) {listed' : List Bool} (hl : listed.set i true = listed') (h : EStep P o st (ll P ol K D late true fuel listed')) : xz P ol K D late b fuel listed i st :=
 ⟨o, hol, hg, .inr ⟨hL, by rw [hl]; exact h⟩⟩
theorem ugk (hr : (Region.ready .any ol.toArray listed.toArray == []) = true) (h : K st) : ll P ol K D late b fuel listed st := by
 intro E0 w0 Q hQ E1 w1 a hev hs _
 have hr' : Region.ready .any ol.toArray listed.toArray = [] := by simpa using hr
 have hq := hQ a w1 st E1 hev hs h
 cases fuel with
 | zero => exact ⟨hr', hq⟩
 | succ n => exact ⟨fun _ => hq, fun i hi => by rw [hr'] at hi; cases hi⟩
theorem rb (is : List Nat) (hr : (Region.ready .any ol.toArray listed.toArray == is) = true) (hne : is ≠ []) (h : sv P ol K D late b fuel listed st is) : ll P ol K D late b (fuel + 1) listed st := by
 intro E0 w0 Q hQ E1 w1 a hev hs hb
 have hr' : Region.ready .any ol.toArray listed.toArray = is := by simpa using hr
 refine ⟨fun e => absurd (hr'.symm.trans e) hne, fun i hi => ?_⟩
 rw [hr'] at hi
 have hi' : xz P ol K D late b fuel listed i st := by
  clear hr hr' hne
  induction is with
  | nil => cases hi
  | cons j is ih =>
   rcases List.mem_cons.1 hi with rfl | hi
   ·exact h.1
   ·exact ih h.2 hi
 obtain ⟨o, hol, hg, hcase⟩ := hi'
 have ho : ol.toArray[i]? = some o := by simpa using hol
 have hset : listed.toArray.setIfInBounds i true = (listed.set i true).toArray := by simp
 refine wpOp_step ho fun Kr hK => ?_
 rw [if_pos (lz hg hs)]
 rcases hcase with ⟨rfl, h1⟩ | ⟨hL, h1⟩
 ·refine h1 E1 w1 a hs Kr _ fun a' w' st' E' q1 q2 q3 => ?_
  have hk := w7 hs q1 q2 q3.1
  refine hK a' w' ⟨.inr fun hS => ⟨fun b j hj => (q1.cell b j (Nat.lt_of_lt_of_le hj (hev.L b))).trans (hS.1 b j hj), fun n hn ver wv val b ht hb' => ?_⟩, ?_⟩
  ·have := hb rfl n hn
   exact ((hk n hn).2 ver wv val b (this.trans ht) hb').trans (hS.2 n hn ver wv val b ht hb')
  ·rw [hset]
   exact q3.2 E0 w0 Q hQ E' w' a' (hev.trans q1) q2 fun e n hn => (hk n hn).1.trans (hb rfl n hn)
 ·refine h1 E1 w1 a hs Kr _ fun a' w' st' E' q1 q2 q3 => ?_
  refine hK a' w' ⟨.inl hL, ?_⟩
  rw [hset]
  exact q3 E0 w0 Q hQ E' w' a' (hev.trans q1) q2 fun e => by cases e
theorem sr {total : Nat} (π : List (Nat × Option Nat)) (fuel : Nat) (listed' : List Bool)
  (hchk : (uat ol.toArray listed.toArray && (Region.noSelect ol.toArray && (m7 ol.toArray late (fun _ => true) π listed.toArray && ((l5 π listed.toArray).toList == listed' && total == ge π + fuel)))) = true)
  (h : jn P ol.toArray (fun st' => n7 D st st' ∧ ll P ol K D late b fuel listed' st') [] late (fun _ => false) (fun _ => true) π st) : ll P ol K D late b total listed st := by
 simp only [Bool.and_eq_true, beq_iff_eq] at hchk
 obtain ⟨h0, h1, h2, h3, h4⟩ := hchk
 subst h4
 intro E0 w0 Q hQ E1 w1 a hev hs hb
 have hend : l5 π listed.toArray = listed'.toArray := by rw [← h3]
 refine ugx (S2 := Keeps E1 (· ∈ ([] : List Nat)) w1) (fun a' w' => iq P .any ol.toArray (jj Q) (Keeps E0 (· ∈ D) w0) late fuel listed'.toArray a' w') fuel h1 (fun _ _ _ _ _ h => h) π _ a w1 (ufl h0) h2 (fun a' h' => by rw [hend]; exact h') ?_
 exact h E1 w1 _ (fun a' w' st' E' q1 q2 q3 => q3.2 E0 w0 Q hQ E' w' a' (hev.trans q1) q2 fun e n hn => ((w7 hs q1 q2 q3.1) n hn).1.trans (hb e n hn)) a hs
theorem uf8 {id : Nat} {l : List Oper} {Q : Exit → St → Prop} (π : List (Nat × Option Nat)) (late N : Nat → Bool) (fuel : Nat) (listed : List Bool) (D : List Nat) (hm : P.follows .mixedOrders = true)
  (hchk : (rt l && (Region.noSelect l.toArray && (m7 l.toArray late N π (Array.replicate l.toArray.size false) && ((l5 π (Array.replicate l.toArray.size false)).toList == listed && ge π + fuel == l.toArray.size)))) = true)
  (h : jn P l.toArray (fun st' => n7 D st st' ∧ ll P l (Q .normal) D late false fuel listed st') D late (fun _ => false) N π st) : AW ρ P (.region id l.toArray true) Q st := by
 intro E w a hs
 simp only [Bool.and_eq_true, beq_iff_eq] at hchk
 obtain ⟨h0, h1, h2, h3, h4⟩ := hchk
 have hev : Ev E w E w.drew := Ev.same ((Below.refl _ _).drew) rfl
 have hend : l5 π (Array.replicate l.toArray.size false) = listed.toArray := by rw [← h3]
 have key : iq P .any l.toArray (jj fun a' w' => ny E w Q .normal a' w') (Keeps E (· ∈ D) w.drew) late (ge π + fuel) (Array.replicate l.toArray.size false) a w.drew := by
  refine x4 (fun a' w' => iq P .any l.toArray (jj fun a' w' => ny E w Q .normal a' w') (Keeps E (· ∈ D) w.drew) late fuel listed.toArray a' w') fuel h1 (fun _ _ _ _ _ h => h) π _ a w.drew ?_ h2 (Keeps.refl _ _ _) (fun a' h' => by rw [hend]; exact h') ?_
  ·intro j o _ hj
   rw [Array.getD_eq_getD_getElem?, Array.getElem?_replicate] at hj
   split at hj <;> simp at hj
  ·exact h E w.drew _ (fun a' w' st' E' q1 q2 q3 => q3.2 E w.drew _ (fun a2 w2 st2 E2 r1 r2 r3 => ⟨st2, E2, hev.trans r1, r2, r3⟩) E' w' a' q1 q2 fun _ n hn => ((w7 hs.drew q1 q2 q3.1) n hn).1) a hs.drew
 rw [h4] at key
 refine ib (Q := jj fun a' w' => ny E w Q .normal a' w') ?_ (uas hm h0 (vf _ _ _ _ key))
 intro e a' w' hq
 cases e with
 | normal => exact hq
 | _ => exact hq.elim
end
/-- Four objects that are changed. -/
theorem ubq {g H : Nat → Option GObj} {a b c d : Nat} {oa ob oc od : GObj} (ha : H a = some oa) (hb : H b = some ob) (hc : H c = some oc) (hd : H d = some od) (h : ∀ n o, n ≠ a → n ≠ b → n ≠ c → n ≠ d → g n = some o → H n = some o) :
  ∀ n o, aj (aj (aj (aj g a oa) b ob) c oc) d od n = some o → H n = some o := by
 intro n o hn
 by_cases e1 : n = d
 ·subst e1; rw [jt] at hn; rw [hd]; exact hn
 ·rw [cp e1] at hn
  by_cases e2 : n = c
  ·subst e2; rw [jt] at hn; rw [hc]; exact hn
  ·rw [cp e2] at hn
   by_cases e3 : n = b
   ·subst e3; rw [jt] at hn; rw [hb]; exact hn
   ·rw [cp e3] at hn
    by_cases e4 : n = a
    ·subst e4; rw [jt] at hn; rw [ha]; exact hn
    ·rw [cp e4] at hn
     exact h n o e4 e3 e2 e1 hn
end Go.AB
namespace Go.AB
open Go Go.RowKit
section
variable {P : Program} {ol : List Oper} {K : St → Prop} {D : List Nat} {late : Nat → Bool}
theorem uo7 (I : List Bool → St → Prop) (stop : List Bool → Bool) (hf : uo ol = true) (hl : ∀ l st, I l st → l.length = ol.length) (hall : ∀ l st, I l st → (∀ i, i < ol.length → l[i]? = some true) → stop l = true)
  (hs : ∀ l st i o, I l st → stop l = false → ol[i]? = some o → l[i]? = some false → (∀ j ∈ mz o, l[j]? = some true) → ei ol.toArray st o = some true ∧ EStep P o st fun st' => n7 D st st' ∧ I (l.set i true) st')
  (he : ∀ l st, I l st → stop l = true → ll P ol K D late false (nv l) l st) : ∀ (fuel : Nat) (l : List Bool) (st : St), I l st → nv l = fuel → ll P ol K D late false fuel l st := by
 intro fuel
 induction fuel with
 | zero =>
  intro l st hI h0
  have hz : ∀ i, i < ol.length → l[i]? = some true := fun i hi => by
   have e := List.getElem?_eq_getElem (l := l) (i := i) (by rw [hl l st hI]; exact hi)
   cases hb : l[i]'(by rw [hl l st hI]; exact hi) with
   | true => rw [e, hb]
   | false => exact absurd (by rw [e, hb]) (udc h0 i)
  have := he l st hI (hall l st hI hz)
  rwa [h0] at this
 | succ fuel ih =>
  intro l st hI h0
  cases hst : stop l with
  | true =>
   have := he l st hI hst
   rwa [h0] at this
  | false =>
   cases h : Region.ready .any ol.toArray l.toArray with
   | nil => rw [hall l st hI (y5 hf (hl l st hI) h)] at hst; cases hst
   | cons i is =>
    refine rb (i :: is) (by rw [h]; exact beq_self_eq_true _) (by simp) ?_
    have key : ∀ js : List Nat, (∀ j ∈ js, j ∈ Region.ready .any ol.toArray l.toArray) → sv P ol K D late false fuel l st js := by
     intro js
     induction js with
     | nil => intro _; trivial
     | cons j js ihj =>
      intro hjs
      refine ⟨?_, ihj fun k hk => hjs k (List.mem_cons_of_mem _ hk)⟩
      obtain ⟨o, ho, h2, h3⟩ := y6 (hjs j (List.mem_cons_self ..)) (hl l st hI)
      have hn : nv (l.set j true) = fuel := by have := wh h2; omega
      obtain ⟨hg, hE⟩ := hs l st j o hI hst ho h2 h3
      exact ⟨o, ho, hg, .inl ⟨rfl, hE.mono fun st' h' => ⟨h'.1, ih _ _ h'.2 hn⟩⟩⟩
    exact key (i :: is) fun j hj => by rw [h]; exact hj
/-- A state whose slots stand in another order. -/
theorem uo6 {b : Bool} {fuel : Nat} {listed : List Bool} {st st' : St} (hn : st.n = st'.n) (hd : st.df = st'.df) (hA : ∀ i, bk st.l st.r i = bk st'.l st'.r i) (hG : st.G = st'.G) (hx : st.nx = st'.nx) (h : ll P ol K D late b fuel listed st') : ll P ol K D late b fuel listed st := by
 intro E0 w0 Q hQ E1 w1 a hev hs hb
 refine h E0 w0 Q hQ E1 w1 a hev ⟨hd ▸ hs.d, hn ▸ hs.sz, fun i v hv => ?_, ?_⟩ hb
 ·have := hs.t i v hv
  rwa [hA] at this
 ·have := hs.g
  rwa [hG, hx] at this
end
theorem rj {st st' : St} {n : Nat} {o : GObj} (h1 : st.G n = some o) (h2 : st'.G n = some o) : n7 [n] st st' := ub4 h1 h2 rfl ub3
/-- whether an operation waits for another one -/
def pr (ol : List Oper) (i j : Nat) : Bool := ((ol[i]?).map fun o => (mz o).contains j).getD false
theorem sg {ol : List Oper} {i j : Nat} {o : Oper} (h : pr ol i j = true) (ho : ol[i]? = some o) : j ∈ mz o := by
 unfold pr at h
 rw [ho] at h
 simpa using h
/-- the slots, when so much came up: builds and appends of three lists -/
def adS (A0 : Nat → C) (c8 c9 c15 c16 c22 c23 : C) (b8 b9 b15 b16 b22 b23 : Bool) (i : Nat) : C :=
 bif b8 && Nat.beq 109 i then c8 else bif b9 && Nat.beq 110 i then c9 else bif b15 && Nat.beq 116 i then c15 else bif b16 && Nat.beq 117 i then c16 else bif b22 && Nat.beq 123 i then c22 else bif b23 && Nat.beq 124 i then c23 else A0 i
def adG (G0 G1 G2 G3 : Nat → Option GObj) (b9 b16 b23 : Bool) : Nat → Option GObj := bif b23 then G3 else bif b16 then G2 else bif b9 then G1 else G0
structure AdI (A0 : Nat → C) (c8 c9 c15 c16 c22 c23 : C) (G0 G1 G2 G3 : Nat → Option GObj) (nn df nx : Nat) (b8 b9 b15 b16 b22 b23 : Bool) (st : St) : Prop where
 n : st.n = nn
 df : st.df = df
 nx : st.nx = nx
 A : ∀ i, bk st.l st.r i = adS A0 c8 c9 c15 c16 c22 c23 b8 b9 b15 b16 b22 b23 i
 G : st.G = adG G0 G1 G2 G3 b9 b16 b23
 e9 : b9 = true → b8 = true
 e16 : b16 = true → b15 = true ∧ b9 = true
 e23 : b23 = true → b22 = true ∧ b16 = true
theorem ko {a b i : Nat} (h : Nat.beq a i = true) (hab : Nat.beq a b = false) : Nat.beq b i = false := by
 have := Nat.eq_of_beq_eq_true h
 subst this
 cases e : Nat.beq b a
 ·rfl
 ·have := Nat.eq_of_beq_eq_true e
  subst this
  rw [Nat.beq_refl] at hab; cases hab
end Go.AB
