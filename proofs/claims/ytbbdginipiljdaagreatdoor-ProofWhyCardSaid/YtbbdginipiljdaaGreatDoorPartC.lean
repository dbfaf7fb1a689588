/-
  What the walks through the program rest on: values, states, steps, calls (PaFlow, PbData, PcWorst, PdPlain, PeSets, PfPlain, PgSides, PhApart, PiWhy, PjWhy, PsExamples, PpAdd, PlTruth, PqRest, AbTwin, AbCut, RaStd, OpenE, AbRem, AbBits, QaRef, QbRef, QcRef, RbSides, QdRef, QeRef, KxBefore, QfRef, QgRef, QhRef, QiRef, QjRef, QkRef, PmMore, QlPlain, AbZero, AbGrow, AbCutN, QmRef, RhProves, AbNew, AbMixD, AbEntry, HdKeys).
-/
import Derived.Lib.Hide
import Derived.Test.YtbbdginipiljdaaGreatDoorPartB
import Derived.Shelf.SlicesE.DeleteFunc
import Derived.Deep.Slices
import Derived.Lib.SmallJoins
import Derived.Carry
import Derived.ProofKit
import Derived.OpenShut
import Derived.WideKeyEntry
namespace Go.AB
/-- a sum -/
def sm : Nat → (Nat → Int) → Int
 | 0, _ => 0
 | n + 1, g => sm n g + g n
theorem rt : ∀ {n : Nat} {g h : Nat → Int}, (∀ i, i < n → g i ≤ h i) → sm n g ≤ sm n h
 | 0, _, _, _ => Int.le_refl _
 | n + 1, g, h, H => by
  have h1 := rt (n := n) fun i hi => H i (by omega)
  have h2 := H n (by omega)
  simp only [sm]; omega
theorem je : ∀ {n : Nat} {g h : Nat → Int}, (∀ i, i < n → g i = h i) → sm n g = sm n h
 | 0, _, _, _ => rfl
 | n + 1, g, h, H => by
  have h1 := je (n := n) fun i hi => H i (by omega)
  have h2 := H n (by omega)
  simp only [sm]; omega
theorem pg : ∀ (n : Nat) (g h : Nat → Int), sm n (fun i => g i + h i) = sm n g + sm n h
 | 0, _, _ => rfl
 | n + 1, g, h => by have := pg n g h; simp only [sm]; omega
theorem pd : ∀ (n : Nat) (g h : Nat → Int), sm n (fun i => g i - h i) = sm n g - sm n h
 | 0, _, _ => rfl
 | n + 1, g, h => by have := pd n g h; simp only [sm]; omega
theorem oq : ∀ n : Nat, sm n (fun _ => 0) = 0
 | 0 => rfl
 | n + 1 => by have := oq n; simp only [sm]; omega
theorem uhc {n : Nat} {g : Nat → Int} (H : ∀ i, i < n → 0 ≤ g i) : 0 ≤ sm n g := by
 have := rt (g := fun _ => 0) H
 rwa [oq] at this
theorem pf : ∀ {n k : Nat} (_ : k < n) (v : Int), sm n (fun i => bif decide (i = k) then v else 0) = v
 | 0, _, h, _ => absurd h (Nat.not_lt_zero _)
 | n + 1, k, h, v => by
  simp only [sm]
  by_cases e : n = k
  ·subst e
   rw [je (h := fun _ => 0) (fun i hi => by rw [decide_eq_false (by omega)]; rfl), oq, decide_eq_true rfl]
   simp
  ·rw [pf (n := n) (by omega) v, decide_eq_false e]
   simp
theorem uar : ∀ (n m : Nat) (g : Nat → Nat → Int), sm n (fun i => sm m (g i)) = sm m (fun j => sm n fun i => g i j)
 | 0, m, g => by simp only [sm]; exact (oq m).symm
 | n + 1, m, g => by
  have := uar n m g
  simp only [sm]
  rw [pg, this]
/-- pages, each with a first and a second reader, or one of them, or none -/
structure Net where
 nF : Nat
 nr : Nat
 np : Nat
 fr : Nat → Option Nat
 sc : Nat → Option Nat
structure Net.Ok (N : Net) : Prop where
 le : N.nF ≤ N.nr
 fr : ∀ j i, N.fr j = some i → i < N.nF
 sc : ∀ j i, N.sc j = some i → N.nF ≤ i ∧ i < N.nr
def ob (S : Nat → Bool) : Option Nat → Bool
 | none => false
 | some i => S i
def Net.hit (N : Net) (S : Nat → Bool) (j : Nat) : Bool := ob S (N.fr j) || ob S (N.sc j)
/-- who reads a page -/
def Net.by (N : Net) (j i : Nat) : Bool := decide (N.fr j = some i) || decide (N.sc j = some i)
/-- what a set of readers proves -/
def Net.f (N : Net) (R C : Nat → Int) (S : Nat → Bool) : Int := sm N.nr (fun i => bif S i then R i else 0) + sm N.np (fun j => bif N.hit S j then 0 else C j)
section
variable {N : Net} {R C : Nat → Int}
theorem Net.Ok.by_lt (h : N.Ok) {j i : Nat} (hb : N.by j i = true) : i < N.nr := by
 simp only [Net.by, Bool.or_eq_true, decide_eq_true_eq] at hb
 rcases hb with e | e
 ·have := h.fr j i e; have := h.le; omega
 ·exact (h.sc j i e).2
theorem Net.hit_iff {S : Nat → Bool} {j : Nat} : N.hit S j = true ↔ ∃ i, N.by j i = true ∧ S i = true := by
 unfold Net.hit Net.by
 constructor
 ·intro h
  rw [Bool.or_eq_true] at h
  rcases h with h | h
  ·cases e : N.fr j with
   | none => rw [e] at h; cases h
   | some i => rw [e] at h; exact ⟨i, by simp, h⟩
  ·cases e : N.sc j with
   | none => rw [e] at h; cases h
   | some i => rw [e] at h; exact ⟨i, by simp, h⟩
 ·rintro ⟨i, h1, h2⟩
  simp only [Bool.or_eq_true, decide_eq_true_eq] at h1 ⊢
  rcases h1 with e | e
  ·rw [e]; exact .inl h2
  ·rw [e]; exact .inr h2
theorem Net.f_congr (hN : N.Ok) {S S' : Nat → Bool} (h : ∀ i, i < N.nr → S i = S' i) : N.f R C S = N.f R C S' := by
 have h2 : ∀ j, N.hit S j = N.hit S' j := fun j => by
  rw [Bool.eq_iff_iff, Net.hit_iff, Net.hit_iff]
  exact ⟨fun ⟨i, q1, q2⟩ => ⟨i, q1, (h i (hN.by_lt q1)) ▸ q2⟩, fun ⟨i, q1, q2⟩ => ⟨i, q1, (h i (hN.by_lt q1)).symm ▸ q2⟩⟩
 have e1 : sm N.nr (fun i => bif S i then R i else 0) = sm N.nr (fun i => bif S' i then R i else 0) := je fun i hi => by rw [h i hi]
 have e2 : sm N.np (fun j => bif N.hit S j then 0 else C j) = sm N.np (fun j => bif N.hit S' j then 0 else C j) := je fun j _ => by rw [h2 j]
 unfold Net.f
 rw [e1, e2]
/-- two sets of readers, crossed -/
def me (nF : Nat) (S T : Nat → Bool) (i : Nat) : Bool := bif decide (i < nF) then S i || T i else S i && T i
def mc (nF : Nat) (S T : Nat → Bool) (i : Nat) : Bool := bif decide (i < nF) then S i && T i else S i || T i
theorem Net.cross (hN : N.Ok) (hC : ∀ j, j < N.np → 0 ≤ C j) (S T : Nat → Bool) : N.f R C (me N.nF S T) + N.f R C (mc N.nF S T) ≤ N.f R C S + N.f R C T := by
 have h1 : sm N.nr (fun i => bif me N.nF S T i then R i else 0) + sm N.nr (fun i => bif mc N.nF S T i then R i else 0) = sm N.nr (fun i => bif S i then R i else 0) + sm N.nr (fun i => bif T i then R i else 0) := by
  rw [← pg, ← pg]
  refine je fun i _ => ?_
  unfold me mc
  cases decide (i < N.nF) <;> cases S i <;> cases T i <;> simp
 have h2 : sm N.np (fun j => bif N.hit (me N.nF S T) j then 0 else C j) + sm N.np (fun j => bif N.hit (mc N.nF S T) j then 0 else C j) ≤ sm N.np (fun j => bif N.hit S j then 0 else C j) + sm N.np (fun j => bif N.hit T j then 0 else C j) := by
  rw [← pg, ← pg]
  refine rt fun j hj => ?_
  have hc := hC j hj
  have e1 : ∀ U V : Nat → Bool, ob (me N.nF U V) (N.fr j) = (ob U (N.fr j) || ob V (N.fr j)) := fun U V => by
   cases e : N.fr j with
   | none => rfl
   | some i => simp only [ob, me, decide_eq_true (hN.fr j i e), cond_true]
  have e2 : ∀ U V : Nat → Bool, ob (mc N.nF U V) (N.fr j) = (ob U (N.fr j) && ob V (N.fr j)) := fun U V => by
   cases e : N.fr j with
   | none => rfl
   | some i => simp only [ob, mc, decide_eq_true (hN.fr j i e), cond_true]
  have e3 : ∀ U V : Nat → Bool, ob (me N.nF U V) (N.sc j) = (ob U (N.sc j) && ob V (N.sc j)) := fun U V => by
   cases e : N.sc j with
   | none => rfl
   | some i => have := hN.sc j i e; simp only [ob, me, decide_eq_false (show ¬ i < N.nF by omega), cond_false]
  have e4 : ∀ U V : Nat → Bool, ob (mc N.nF U V) (N.sc j) = (ob U (N.sc j) || ob V (N.sc j)) := fun U V => by
   cases e : N.sc j with
   | none => rfl
   | some i => have := hN.sc j i e; simp only [ob, mc, decide_eq_false (show ¬ i < N.nF by omega), cond_false]
  simp only [Net.hit, e1, e2, e3, e4]
  cases ob S (N.fr j) <;> cases ob T (N.fr j) <;> cases ob S (N.sc j) <;> cases ob T (N.sc j) <;> simp <;> omega
 unfold Net.f
 omega
/-- so much less for the readers of a page, and nothing more on it -/
def Net.lessR (N : Net) (R : Nat → Int) (j : Nat) (n : Int) (i : Nat) : Int := bif N.by j i then R i - n else R i
def er (C : Nat → Int) (j k : Nat) : Int := bif decide (k = j) then 0 else C k
def cnt (S : Nat → Bool) (o : Option Nat) (n : Int) : Int := bif ob S o then n else 0
theorem Net.f_less (hN : N.Ok) {j : Nat} (hj : j < N.np) (n : Int) (S : Nat → Bool) : N.f (N.lessR R j n) (er C j) S = N.f R C S - cnt S (N.fr j) n - cnt S (N.sc j) n - (bif N.hit S j then 0 else C j) := by
 have h1 : sm N.np (fun k => bif N.hit S k then 0 else er C j k) = sm N.np (fun k => bif N.hit S k then 0 else C k) - (bif N.hit S j then 0 else C j) := by
  have := pf hj (bif N.hit S j then 0 else C j)
  rw [← this, ← pd]
  refine je fun k _ => ?_
  by_cases e : k = j
  ·subst e; simp [er]
  ·simp [er, e]
 have h2 : ∀ o : Option Nat, (∀ i, o = some i → i < N.nr) → sm N.nr (fun i => bif decide (o = some i) then (bif S i then n else 0) else 0) = cnt S o n := fun o ho => by
  cases o with
  | none => simp only [cnt, ob, cond_false]; rw [je (h := fun _ => 0) (fun i _ => by simp), oq]
  | some k =>
   have := pf (ho k rfl) (bif S k then n else 0)
   rw [je (h := fun i => bif decide (i = k) then (bif S k then n else 0) else 0)]
   ·exact this
   ·intro i _
    by_cases e : i = k
    ·subst e; simp
    ·simp [e, Ne.symm e]
 have h3 : sm N.nr (fun i => bif S i then N.lessR R j n i else 0) = sm N.nr (fun i => bif S i then R i else 0) - cnt S (N.fr j) n - cnt S (N.sc j) n := by
  rw [← h2 (N.fr j) (fun i e => by have := hN.fr j i e; have := hN.le; omega), ← h2 (N.sc j) (fun i e => (hN.sc j i e).2), ← pd, ← pd]
  refine je fun i _ => ?_
  unfold Net.lessR Net.by
  have hx : ¬ (N.fr j = some i ∧ N.sc j = some i) := fun ⟨q1, q2⟩ => by have := hN.fr j i q1; have := (hN.sc j i q2).1; omega
  by_cases q1 : N.fr j = some i
  ·have q2 : ¬ N.sc j = some i := fun q2 => hx ⟨q1, q2⟩
   cases S i <;> simp [q1, q2]
  ·by_cases q2 : N.sc j = some i
   ·cases S i <;> simp [q1, q2]
   ·cases S i <;> simp [q1, q2]
 unfold Net.f
 rw [h1, h3]
 omega
/-- the least of some numbers, as it is looked for -/
def lv (g : Nat → Int) : Nat → Int
 | 0 => g 0
 | k + 1 => min (lv g k) (g k)
theorem ucl {g : Nat → Int} : ∀ {k s : Nat}, s < k ∨ s = 0 → lv g k ≤ g s
 | 0, s, h => by obtain rfl : s = 0 := by omega
         exact Int.le_refl _
 | k + 1, s, h => by
  by_cases e : s = k
  ·subst e; exact Int.min_le_right _ _
  ·have := ucl (g := g) (k := k) (s := s) (by omega)
   exact Int.le_trans (Int.min_le_left _ _) this
theorem u6 {g : Nat → Int} : ∀ k : Nat, ∃ s, (s < k ∨ s = 0) ∧ lv g k = g s
 | 0 => ⟨0, .inr rfl, rfl⟩
 | k + 1 => by
  obtain ⟨s, h1, h2⟩ := u6 (g := g) k
  by_cases e : lv g k ≤ g k
  ·exact ⟨s, by omega, by rw [lv, Int.min_eq_left e, h2]⟩
  ·exact ⟨k, by omega, by rw [lv, Int.min_eq_right (by omega)]⟩
/-- a set as a number -/
def m8 (S : Nat → Bool) : Nat → Nat
 | 0 => 0
 | n + 1 => m8 S n ||| (bif S n then 2 ^ n else 0)
theorem zf (S : Nat → Bool) : ∀ n, m8 S n < 2 ^ n
 | 0 => by simp [m8]
 | n + 1 => by
  have h := zf S n
  have h2 : 2 ^ n < 2 ^ (n + 1) := Nat.pow_lt_pow_right (by omega) (by omega)
  unfold m8
  refine Nat.or_lt_two_pow (by omega) ?_
  cases S n
  ·exact Nat.two_pow_pos _
  ·exact h2
theorem zg (S : Nat → Bool) : ∀ n i, (m8 S n).testBit i = (decide (i < n) && S i)
 | 0, i => by simp [m8]
 | n + 1, i => by
  have h := zg S n i
  unfold m8
  rw [Nat.testBit_or, h]
  by_cases e : i = n
  ·subst e
   cases hS : S i <;> simp
  ·have e2 : decide (i < n + 1) = decide (i < n) := by rw [decide_eq_decide]; omega
   rw [e2]
   cases hS : S n
   ·simp
   ·simp only [cond_true, Nat.testBit_two_pow]
    rw [decide_eq_false (Ne.symm e), Bool.or_false]
def Net.most (N : Net) (R C : Nat → Int) : Int := lv (fun s => N.f R C fun i => s.testBit i) (2 ^ N.nr)
theorem Net.most_le (hN : N.Ok) (S : Nat → Bool) : N.most R C ≤ N.f R C S := by
 have h := ucl (g := fun s => N.f R C fun i => s.testBit i) (k := 2 ^ N.nr) (s := m8 S N.nr) (.inl (zf S _))
 refine Int.le_trans h (Int.le_of_eq (Net.f_congr hN fun i hi => ?_))
 rw [zg, decide_eq_true hi, Bool.true_and]
theorem Net.most_get (N : Net) (R C : Nat → Int) : ∃ S : Nat → Bool, N.most R C = N.f R C S := by
 obtain ⟨s, _, h⟩ := u6 (g := fun s => N.f R C fun i => s.testBit i) (2 ^ N.nr)
 exact ⟨fun i => s.testBit i, h⟩
def nt (n : Int) (R : Nat → Int) : Option Nat → Int
 | none => n
 | some i => min n (R i)
/-- the most on one page -/
def Net.alone (N : Net) (R C : Nat → Int) (j : Nat) : Int := nt (nt (C j) R (N.fr j)) R (N.sc j)
theorem uck {n m : Int} {o : Option Nat} : m ≤ nt n R o ↔ m ≤ n ∧ ∀ i, o = some i → m ≤ R i := by
 cases o with
 | none => simp [nt]
 | some k => simp only [nt, Int.le_min, Option.some.injEq, forall_eq']
theorem Net.le_alone {j : Nat} {m : Int} : m ≤ N.alone R C j ↔ m ≤ C j ∧ ∀ i, N.by j i = true → m ≤ R i := by
 unfold Net.alone Net.by
 rw [uck, uck]
 simp only [Bool.or_eq_true, decide_eq_true_eq]
 exact ⟨fun ⟨⟨h1, h2⟩, h3⟩ => ⟨h1, fun i hi => hi.elim (h2 i) (h3 i)⟩, fun ⟨h1, h2⟩ => ⟨⟨h1, fun i hi => h2 i (.inl hi)⟩, fun i hi => h2 i (.inr hi)⟩⟩
/-- what remains, and so much less of it -/
theorem Net.less_le (hN : N.Ok) {j : Nat} (hj : j < N.np) {n : Int} (h0 : 0 ≤ n) (hn : n ≤ C j) : n + N.most (N.lessR R j n) (er C j) ≤ N.most R C := by
 obtain ⟨S, hS⟩ := N.most_get R C
 have h1 := Net.most_le (R := N.lessR R j n) (C := er C j) hN S
 rw [Net.f_less hN hj] at h1
 rw [hS]
 cases e : N.hit S j
 ·rw [e] at h1
  have e2 := e
  unfold Net.hit at e2
  rw [Bool.or_eq_false_iff] at e2
  simp only [cnt, e2.1, e2.2, cond_false] at h1
  omega
 ·rw [e] at h1
  unfold Net.hit at e
  rw [Bool.or_eq_true] at e
  unfold cnt at h1
  rcases e with q | q
  ·rw [q] at h1
   cases e2 : ob S (N.sc j) <;> rw [e2] at h1 <;> simp only [cond_true, cond_false] at h1 <;> omega
  ·rw [q] at h1
   cases e2 : ob S (N.fr j) <;> rw [e2] at h1 <;> simp only [cond_true, cond_false] at h1 <;> omega
/-- of each page there is a worst number of errors -/
theorem Net.greedy (hN : N.Ok) (hR : ∀ i, i < N.nr → 0 ≤ R i) (hC : ∀ j, j < N.np → 0 ≤ C j) {j : Nat} (hj : j < N.np) : ∃ n : Int, 0 ≤ n ∧ n ≤ N.alone R C j ∧ N.most R C ≤ n + N.most (N.lessR R j n) (er C j) := by
 -- the largest number that every set allows
 have hcj := hC j hj
 have hal : 0 ≤ N.alone R C j := Net.le_alone.2 ⟨hcj, fun i hi => hR i (hN.by_lt hi)⟩
 have key : ∀ n : Int, 0 ≤ n → n ≤ N.alone R C j → (∀ S, ob S (N.fr j) = true → ob S (N.sc j) = true → N.most R C ≤ N.f R C S - n) → (n = N.alone R C j ∨ ∃ S, ob S (N.fr j) = true ∧ ob S (N.sc j) = true ∧ N.f R C S - n = N.most R C) → N.most R C ≤ n + N.most (N.lessR R j n) (er C j) := by
  intro n h0 h1 h2 h3
  obtain ⟨S, hS⟩ := N.most_get (N.lessR R j n) (er C j)
  rw [hS, Net.f_less hN hj]
  have hm := Net.most_le (R := R) (C := C) hN S
  cases e1 : ob S (N.fr j) <;> cases e2 : ob S (N.sc j)
  ·have e : N.hit S j = false := by simp [Net.hit, e1, e2]
   simp only [cnt, e1, e2, e, cond_false]
   -- no reader of the page is in the set
   rcases h3 with h3 | ⟨T, t1, t2, t3⟩
   ·-- as much as can be: the page itself, or a reader
    by_cases hc : n = C j
    ·omega
    ·have h4 := (Net.le_alone.1 h1).1
     obtain ⟨i, hi, hri⟩ : ∃ i, N.by j i = true ∧ R i = n := by
      refine Classical.byContradiction fun hno => ?_
      have : n + 1 ≤ N.alone R C j := Net.le_alone.2 ⟨by omega, fun i hi => by
       have q1 := (Net.le_alone.1 h1).2 i hi
       have q2 : R i ≠ n := fun q => hno ⟨i, hi, q⟩
       omega⟩
      omega
     -- the set with that reader
     have h5 := Net.most_le (R := R) (C := C) hN (fun k => S k || decide (k = i))
     have h6 : N.f R C (fun k => S k || decide (k = i)) ≤ N.f R C S + R i - C j := by
      have g1 : sm N.nr (fun k => bif (S k || decide (k = i)) then R k else 0) ≤ sm N.nr (fun k => bif S k then R k else 0) + R i := by
       have := pf (hN.by_lt hi) (R i)
       rw [← this, ← pg]
       refine rt fun k hk => ?_
       have := hR k hk
       by_cases q : k = i
       ·subst q; cases S k <;> simp <;> omega
       ·cases S k <;> simp [q]
      have g2 : sm N.np (fun k => bif N.hit (fun k => S k || decide (k = i)) k then 0 else C k) ≤ sm N.np (fun k => bif N.hit S k then 0 else C k) - C j := by
       have := pf hj (C j)
       rw [← this, ← pd]
       refine rt fun k hk => ?_
       have hck := hC k hk
       have mono : N.hit S k = true → N.hit (fun k => S k || decide (k = i)) k = true := fun q => by
        obtain ⟨x, x1, x2⟩ := Net.hit_iff.1 q
        exact Net.hit_iff.2 ⟨x, x1, by simp [x2]⟩
       by_cases q : k = j
       ·subst q
        rw [show N.hit (fun k => S k || decide (k = i)) k = true from Net.hit_iff.2 ⟨i, hi, by simp⟩, e]
        simp
       ·rw [decide_eq_false q]
        cases q1 : N.hit S k
        ·cases N.hit (fun k => S k || decide (k = i)) k <;> simp <;> omega
        ·rw [mono q1]; simp
      unfold Net.f
      dsimp only
      omega
     omega
   ·-- crossed with a set that has both
    have hx := Net.cross (R := R) (C := er C j) hN (fun k hk => by unfold er; cases decide (k = j) <;> simp; exact hC k hk) S T
    have hsub : ∀ U : Nat → Bool, N.f R (er C j) U = N.f R C U - (bif N.hit U j then 0 else C j) := fun U => by
     have := Net.f_less (R := R) (C := C) hN hj 0 U
     have e0 : N.lessR R j 0 = R := by funext i; unfold Net.lessR; cases N.by j i <;> simp
     rw [e0] at this
     rw [this]
     unfold cnt
     cases ob U (N.fr j) <;> cases ob U (N.sc j) <;> simp
    rw [hsub, hsub, hsub, hsub, e, show N.hit T j = true by simp [Net.hit, t1]] at hx
    obtain ⟨a, ha⟩ : ∃ a, N.fr j = some a := by cases q : N.fr j with
     | none => rw [q] at t1; cases t1
     | some a => exact ⟨a, rfl⟩
    obtain ⟨b, hb⟩ : ∃ b, N.sc j = some b := by cases q : N.sc j with
     | none => rw [q] at t2; cases t2
     | some b => exact ⟨b, rfl⟩
    rw [ha] at t1
    rw [hb] at t2
    have hA : N.hit (me N.nF S T) j = true := by
     simp only [Net.hit, ha, ob, me, decide_eq_true (hN.fr j a ha), cond_true]
     rw [show T a = true from t1]; simp
    have hB : N.hit (mc N.nF S T) j = true := by
     have := hN.sc j b hb
     simp only [Net.hit, hb, ob, mc, decide_eq_false (show ¬ b < N.nF by omega), cond_false]
     rw [show T b = true from t2]; simp
    rw [hA, hB] at hx
    simp only [cond_true, cond_false] at hx
    have q1 := Net.most_le (R := R) (C := C) hN (me N.nF S T)
    have q2 := Net.most_le (R := R) (C := C) hN (mc N.nF S T)
    omega
  ·have e : N.hit S j = true := by simp [Net.hit, e2]
   simp only [cnt, e1, e2, e, cond_false, cond_true]
   omega
  ·have e : N.hit S j = true := by simp [Net.hit, e1]
   simp only [cnt, e1, e2, e, cond_false, cond_true]
   omega
  ·have e : N.hit S j = true := by simp [Net.hit, e1]
   simp only [cnt, e1, e2, e, cond_true]
   have := h2 S e1 e2
   omega
 by_cases hb : ∀ S, ob S (N.fr j) = true → ob S (N.sc j) = true → N.most R C ≤ N.f R C S - N.alone R C j
 ·exact ⟨_, hal, Int.le_refl _, key _ hal (Int.le_refl _) hb (.inl rfl)⟩
 ·-- the qq of those that have both
  have : ∃ m : Int, (∃ S, ob S (N.fr j) = true ∧ ob S (N.sc j) = true ∧ N.f R C S = m) ∧ ∀ S, ob S (N.fr j) = true → ob S (N.sc j) = true → m ≤ N.f R C S := by
   obtain ⟨S0, s1, s2⟩ : ∃ S, ob S (N.fr j) = true ∧ ob S (N.sc j) = true := by
    refine Classical.byContradiction fun hno => hb fun S h1 h2 => absurd ⟨S, h1, h2⟩ hno
   have hlow : ∀ S, ob S (N.fr j) = true → ob S (N.sc j) = true → N.most R C ≤ N.f R C S := fun S _ _ => Net.most_le hN S
   generalize hd : (N.f R C S0 - N.most R C).toNat = d
   induction d using Nat.strongRecOn generalizing S0 with
   | _ d ih =>
    by_cases hmin : ∀ S, ob S (N.fr j) = true → ob S (N.sc j) = true → N.f R C S0 ≤ N.f R C S
    ·exact ⟨_, ⟨S0, s1, s2, rfl⟩, hmin⟩
    ·obtain ⟨S1, hS1⟩ := Classical.not_forall.1 hmin
     obtain ⟨t1, hS2⟩ := Classical.not_imp.1 hS1
     obtain ⟨t2, hS3⟩ := Classical.not_imp.1 hS2
     have hl1 := hlow S1 t1 t2
     have hl0 := hlow S0 s1 s2
     exact ih _ (by omega) S1 t1 t2 rfl
  obtain ⟨m, ⟨S, q1, q2, q3⟩, q4⟩ := this
  have hm := Net.most_le (R := R) (C := C) hN S
  have hlt : m - N.most R C < N.alone R C j := by
   refine Classical.byContradiction fun hno => hb fun T t1 t2 => ?_
   have := q4 T t1 t2
   omega
  exact ⟨m - N.most R C, by omega, by omega, key _ (by omega) (by omega) (fun T t1 t2 => by have := q4 T t1 t2; omega) (.inr ⟨S, q1, q2, by omega⟩)⟩
end
end Go.AB
namespace Go.PB
structure bw where
 id : Int
 miss : Int
 deriving DecidableEq
structure aw where
 fr : Int
 to : Int
 fst : Int
 snd : Int
 found : List PlaceD
 well : List PlaceD
 deriving DecidableEq
structure ah where
 text : ai
 firsts : List bw
 seconds : List bw
 pages : List aw
 deriving DecidableEq
/-- proofs at work -/
structure cw where
 p : ah
 words : List Int
 all : List (List PlaceD)
 both : List (List PlaceD)
structure br where
 lo : Int
 hi : Int
 deriving DecidableEq
end Go.PB
namespace Go.AB
open Go Go.RowKit
open Go.AB.Enc (cells)
open Go.PB (ba ai PlaceD bh bj bi bw aw ah cw br)
instance : Enc bw := ⟨fun x => [.v (.int .i64 x.id), .v (.int .i64 x.miss)], 2, fun _ => rfl, fun m x c h => by
 simp only [List.mem_cons, List.not_mem_nil, or_false] at h; rcases h with rfl | rfl <;> exact .v, fun x c h => by
 simp only [List.mem_cons, List.not_mem_nil, or_false] at h; rcases h with rfl | rfl <;> rfl⟩
instance : Enc br := ⟨fun x => [.v (.int .i64 x.lo), .v (.int .i64 x.hi)], 2, fun _ => rfl, fun m x c h => by
 simp only [List.mem_cons, List.not_mem_nil, or_false] at h; rcases h with rfl | rfl <;> exact .v, fun x c h => by
 simp only [List.mem_cons, List.not_mem_nil, or_false] at h; rcases h with rfl | rfl <;> rfl⟩
instance : Enc aw := ⟨fun x => [.v (.int .i64 x.fr), .v (.int .i64 x.to), .v (.int .i64 x.fst), .v (.int .i64 x.snd), lst x.found, lst x.well], 6, fun _ => rfl, fun m x c h => by
 simp only [List.mem_cons, List.not_mem_nil, or_false] at h
 rcases h with rfl | rfl | rfl | rfl | rfl | rfl
 ·exact .v
 ·exact .v
 ·exact .v
 ·exact .v
 ·exact ca m _
 ·exact ca m _, fun x c h => by
 simp only [List.mem_cons, List.not_mem_nil, or_false] at h; rcases h with rfl | rfl | rfl | rfl | rfl | rfl <;> rfl⟩
instance : Enc ah := ⟨fun x => [lst x.text, lst x.firsts, lst x.seconds, lst x.pages], 4, fun _ => rfl, fun m x c h => by
 simp only [List.mem_cons, List.not_mem_nil, or_false] at h
 rcases h with rfl | rfl | rfl | rfl
 ·exact ca m _
 ·exact ca m _
 ·exact ca m _
 ·exact ca m _, fun x c h => by
 simp only [List.mem_cons, List.not_mem_nil, or_false] at h; rcases h with rfl | rfl | rfl | rfl <;> rfl⟩
/-! ### Lines of a text -/
/-- the number of a chapter's first line -/
def f9 (t : ai) (k : Nat) : Nat := ((t.take k).map fun c => c.lines.length).sum
theorem uao (t : ai) : f9 t 0 = 0 := by simp [f9]
theorem rr {t : ai} {k : Nat} {c : ba} (h : t[k]? = some c) : f9 t (k + 1) = f9 t k + c.lines.length := by
 unfold f9
 rw [List.take_add_one, h]
 simp
def l8 (t : ai) : Nat := f9 t t.length
/-- the number of the line of a place -/
def pt (t : ai) (q : PlaceD) : Int := q.ln + (f9 t q.ch.toNat : Int)
def ib (t : ai) (x : aw) (q : PlaceD) : Bool := inB (pt t q) x.fr x.to
/-! ### Valid proofs -/
def mj (a b : PlaceD) : Bool := decide (fh (c9 a) (c9 b) < 0)
/-- a place of a list may stand where it does -/
def jm (t : ai) (x : aw) (l : List PlaceD) (i : Nat) : Bool := match l[i]? with
 | none => true
 | some q => fw t q && ib t x q && (decide (i = 0) || match l[i - 1]? with | none => true | some a => mj a q)
def dw (t : ai) (x : aw) (l : List PlaceD) (n : Nat) : Bool := (List.range n).all (jm t x l)
theorem g6 (t : ai) (x : aw) (l : List PlaceD) (n : Nat) : dw t x l (n + 1) = (dw t x l n && jm t x l n) := by
 unfold dw
 rw [List.range_succ, List.all_append]
 simp
def ig (t : ai) (x : aw) (r : Int) (l : List PlaceD) : Bool := (decide (0 ≤ r) || decide (l = [])) && dw t x l l.length
def gy (r : bw) : Bool := inB r.id 0 9999 && inB r.miss 0 90
def jt (p : ah) : Bool := decide (p.firsts.length ≤ 3) && decide (p.seconds.length ≤ 3) && (p.firsts ++ p.seconds).all gy && decide ((p.firsts ++ p.seconds).map (·.id)).Nodup
def ll (p : ah) (last : Int) (x : aw) : Bool := decide (last < x.fr) && decide (x.fr ≤ x.to) && decide (x.to < (l8 p.text : Int)) && inB x.fst (-1) ((p.firsts.length : Int) - 1) && ig p.text x x.fst x.found && inB x.snd (-1) ((p.seconds.length : Int) - 1) && ig p.text x x.snd x.well
/-- the last line ahead of a page -/
def im (l : List aw) : Nat → Int
 | 0 => -1
 | i + 1 => match l[i]? with | some x => x.to | none => -1
def r7 (p : ah) (i : Nat) : Bool := match p.pages[i]? with
 | none => true
 | some x => ll p (im p.pages i) x
def pm (p : ah) (n : Nat) : Bool := (List.range n).all (r7 p)
theorem ubn (p : ah) (n : Nat) : pm p (n + 1) = (pm p n && r7 p n) := by
 unfold pm
 rw [List.range_succ, List.all_append]
 simp
def gg (p : ah) : Bool := jt p && decide (p.pages.length ≤ 8) && pm p p.pages.length
def cv (p : ah) : Int := bif dz p.text then (bif gg p then 0 else 90) else 10
/-! ### What is found on a page -/
def cr (t : ai) (x : aw) : List PlaceD := (gw t).filter fun q => decide (q ∈ x.found) || decide (q ∈ x.well)
def dj (t : ai) (x : aw) : List PlaceD := (gw t).filter fun q => decide (q ∈ x.found) && decide (q ∈ x.well)
def dm (t : ai) (x : aw) : Nat := ((gw t).filter (ib t x)).length
/-! ### Bounds of readers -/
def eh (b : Bool) (x : aw) : Int := bif b then x.snd else x.fst
def dr (b : Bool) (x : aw) : List PlaceD := bif b then x.well else x.found
def dv (p : ah) (b : Bool) : List bw := bif b then p.seconds else p.firsts
def ei (l : List aw) (g : aw → Nat) : Nat := (l.map g).sum
theorem rq {l : List aw} {k : Nat} {x : aw} {g : aw → Nat} (h : l[k]? = some x) : ei (l.take (k + 1)) g = ei (l.take k) g + g x := by
 unfold ei
 rw [List.take_add_one, h]
 simp
def g5 (b : Bool) (i : Int) (x : aw) : Nat := bif decide (eh b x = i) then (dr b x).length else 0
def iz (t : ai) (b : Bool) (i : Int) (x : aw) : Nat := bif decide (eh b x = i) then (cr t x).length else 0
def k9 (p : ah) (b : Bool) (i : Nat) : Int := match (dv p b)[i]? with | some r => r.miss | none => 0
def da (p : ah) (b : Bool) (i : Nat) : Int := 100 * (ei p.pages (g5 b i) : Int) / (100 - k9 p b i)
def mz (p : ah) (b : Bool) (i : Nat) : Int := da p b i - (ei p.pages (iz p.text b i) : Int)
/-! ### What may remain -/
def bt (p : ah) : Nat := p.firsts.length + p.seconds.length
def c4 (p : ah) (i : Nat) : Int := bif decide (i < p.firsts.length) then mz p false i else mz p true (i - p.firsts.length)
def p3 (t : ai) (x : aw) : Int := (dm t x : Int) - ((cr t x).length : Int)
def i6 (p : ah) : Bool := (List.range (bt p)).all fun i => decide (0 ≤ c4 p i)
def bu (p : ah) : Net where
 nF := p.firsts.length
 nr := bt p
 np := p.pages.length
 fr := fun j => match p.pages[j]? with | some x => (bif decide (0 ≤ x.fst) then some x.fst.toNat else none) | none => none
 sc := fun j => match p.pages[j]? with | some x => (bif decide (0 ≤ x.snd) then some (p.firsts.length + x.snd.toNat) else none) | none => none
end Go.AB
namespace Go.AB
/-- so much on a page is the most of what loses nothing -/
structure Net.Pick (N : Net) (R C : Nat → Int) (j : Nat) (n : Int) : Prop where
 nn : 0 ≤ n
 le : n ≤ N.alone R C j
 ok : N.most R C ≤ n + N.most (N.lessR R j n) (er C j)
 max : ∀ m, n < m → m ≤ N.alone R C j → ¬ N.most R C ≤ m + N.most (N.lessR R j m) (er C j)
section
variable {N : Net} {R C : Nat → Int}
theorem Net.Pick.uniq {j : Nat} {n m : Int} (h : N.Pick R C j n) (k : N.Pick R C j m) : n = m := by
 rcases Int.lt_trichotomy n m with q | q | q
 ·exact absurd k.ok (h.max m q k.le)
 ·exact q
 ·exact absurd h.ok (k.max n q h.le)
theorem Net.pick_ex (hN : N.Ok) (hR : ∀ i, i < N.nr → 0 ≤ R i) (hC : ∀ j, j < N.np → 0 ≤ C j) {j : Nat} (hj : j < N.np) : ∃ n, N.Pick R C j n := by
 obtain ⟨n, h1, h2, h3⟩ := Net.greedy hN hR hC hj
 generalize hd : (N.alone R C j - n).toNat = d
 induction d using Nat.strongRecOn generalizing n with
 | _ d ih =>
  by_cases hmax : ∀ m, n < m → m ≤ N.alone R C j → ¬ N.most R C ≤ m + N.most (N.lessR R j m) (er C j)
  ·exact ⟨n, h1, h2, h3, hmax⟩
  ·obtain ⟨m, hm⟩ := Classical.not_forall.1 hmax
   obtain ⟨q1, hm⟩ := Classical.not_imp.1 hm
   obtain ⟨q2, hm⟩ := Classical.not_imp.1 hm
   exact ih _ (by omega) m (by omega) q2 (Classical.not_not.1 hm) rfl
open Classical in
noncomputable def Net.pick (N : Net) (R C : Nat → Int) (j : Nat) : Int := if h : ∃ n, N.Pick R C j n then h.choose else 0
theorem Net.pick_spec {j : Nat} (h : ∃ n, N.Pick R C j n) : N.Pick R C j (N.pick R C j) := by
 unfold Net.pick
 rw [dif_pos h]
 exact h.choose_spec
theorem Net.pick_eq {j : Nat} {n : Int} (h : N.Pick R C j n) : N.pick R C j = n := (Net.pick_spec ⟨n, h⟩).uniq h
/-- what may remain ahead of a page, by the worst truth -/
noncomputable def Net.room (N : Net) (R C : Nat → Int) : Nat → (Nat → Int) × (Nat → Int)
 | 0 => (R, C)
 | i + 1 => (N.lessR (N.room R C i).1 i (N.pick (N.room R C i).1 (N.room R C i).2 i), er (N.room R C i).2 i)
/-- the worst truth -/
noncomputable def Net.worst (N : Net) (R C : Nat → Int) (i : Nat) : Int := N.pick (N.room R C i).1 (N.room R C i).2 i
theorem Net.room_succ (i : Nat) : N.room R C (i + 1) = (N.lessR (N.room R C i).1 i (N.worst R C i), er (N.room R C i).2 i) := rfl
structure Net.RoomOk (N : Net) (R C : Nat → Int) (i : Nat) : Prop where
 rnn : ∀ r, r < N.nr → 0 ≤ (N.room R C i).1 r
 cnn : ∀ j, j < N.np → 0 ≤ (N.room R C i).2 j
 all : N.most (N.room R C i).1 (N.room R C i).2 = N.most R C - sm i (N.worst R C)
 caps : ∀ j, (N.room R C i).2 j = bif decide (j < i) then 0 else C j
 rds : ∀ r, (N.room R C i).1 r = R r - sm i (fun j => bif N.by j r then N.worst R C j else 0)
theorem Net.room_ok (hN : N.Ok) (hR : ∀ i, i < N.nr → 0 ≤ R i) (hC : ∀ j, j < N.np → 0 ≤ C j) : ∀ i, i ≤ N.np → N.RoomOk R C i
 | 0, _ => ⟨hR, hC, by simp [Net.room, sm], fun j => by simp [Net.room], fun r => by simp [Net.room, sm]⟩
 | i + 1, hi => by
  have h := Net.room_ok hN hR hC i (by omega)
  have hp : N.Pick (N.room R C i).1 (N.room R C i).2 i (N.worst R C i) := Net.pick_spec (Net.pick_ex hN h.rnn h.cnn (by omega))
  have hal := Net.le_alone.1 hp.le
  have hle := Net.less_le (R := (N.room R C i).1) (C := (N.room R C i).2) hN (show i < N.np by omega) hp.nn hal.1
  have hok := hp.ok
  refine ⟨fun r hr => ?_, fun j hj => ?_, ?_, fun j => ?_, fun r => ?_⟩
  ·rw [Net.room_succ]
   show 0 ≤ N.lessR _ i _ r
   unfold Net.lessR
   cases hb : N.by i r
   ·exact h.rnn r hr
   ·have := hal.2 r hb
    simp only [cond_true]; omega
  ·rw [Net.room_succ]
   show 0 ≤ er _ i j
   unfold er
   cases decide (j = i)
   ·exact h.cnn j hj
   ·exact Int.le_refl _
  ·rw [Net.room_succ]
   have := h.all
   simp only [sm]
   show N.most (N.lessR _ i _) (er _ i) = _
   omega
  ·rw [Net.room_succ]
   show er _ i j = _
   unfold er
   rw [h.caps j]
   by_cases e : j = i
   ·subst e; simp
   ·rw [decide_eq_false e, cond_false, show decide (j < i + 1) = decide (j < i) by rw [decide_eq_decide]; omega]
  ·rw [Net.room_succ]
   show N.lessR _ i _ r = _
   unfold Net.lessR
   rw [h.rds r]
   simp only [sm]
   cases N.by i r <;> simp <;> omega
theorem Net.worst_pick (hN : N.Ok) (hR : ∀ i, i < N.nr → 0 ≤ R i) (hC : ∀ j, j < N.np → 0 ≤ C j) {i : Nat} (hi : i < N.np) : N.Pick (N.room R C i).1 (N.room R C i).2 i (N.worst R C i) := by
 have h := Net.room_ok hN hR hC i (by omega)
 exact Net.pick_spec (Net.pick_ex hN h.rnn h.cnn hi)
end
end Go.AB
namespace Go.AB
open Go Go.RowKit
open Go.AB.Enc (cells)
open Go.PB (ba ai PlaceD bh bj bi bw aw ah cw br)
theorem ugy (g : aw → Nat) : ∀ l : List aw, ((ei l g : Nat) : Int) = sm l.length (fun j => match l[j]? with | some x => (g x : Int) | none => 0) := by
 intro l
 have key : ∀ k, k ≤ l.length → ((ei (l.take k) g : Nat) : Int) = sm k (fun j => match l[j]? with | some x => (g x : Int) | none => 0) := by
  intro k
  induction k with
  | zero => intro _; rfl
  | succ k ih =>
   intro hk
   have hx : l[k]? = some l[k] := List.getElem?_eq_getElem (by omega)
   rw [rq hx]
   simp only [sm, hx]
   have := ih (by omega)
   omega
 have := key l.length (Nat.le_refl _)
 rwa [List.take_length] at this
/-! ### What valid proofs are -/
structure eg (p : ah) : Prop where
 text : dz p.text = true
 nf : p.firsts.length ≤ 3
 ns : p.seconds.length ≤ 3
 np : p.pages.length ≤ 8
 rd : ∀ r ∈ p.firsts ++ p.seconds, gy r = true
 page : ∀ (j : Nat) (x : aw), p.pages[j]? = some x → ll p (im p.pages j) x = true
theorem lg {p : ah} (h : cv p = 0) : eg p ∧ gg p = true := by
 unfold cv at h
 cases ht : dz p.text
 ·rw [ht] at h; simp at h
 ·cases hp : gg p
  ·rw [ht, hp] at h; simp at h
  ·refine ⟨?_, rfl⟩
   unfold gg jt at hp
   simp only [Bool.and_eq_true, decide_eq_true_eq] at hp
   obtain ⟨⟨⟨⟨⟨h1, h2⟩, h3⟩, _⟩, h5⟩, h6⟩ := hp
   refine ⟨ht, h1, h2, h5, fun r hr => List.all_eq_true.1 h3 r hr, fun j x hx => ?_⟩
   have hj := (List.getElem?_eq_some_iff.1 hx).1
   have := List.all_eq_true.1 h6 j (List.mem_range.2 hj)
   unfold r7 at this
   rw [hx] at this
   exact this
structure ly (p : ah) (last : Int) (x : aw) : Prop where
 fr : last < x.fr
 to : x.fr ≤ x.to
 lt : x.to < (l8 p.text : Int)
 fst : -1 ≤ x.fst ∧ x.fst ≤ (p.firsts.length : Int) - 1
 snd : -1 ≤ x.snd ∧ x.snd ≤ (p.seconds.length : Int) - 1
 found : ig p.text x x.fst x.found = true
 well : ig p.text x x.snd x.well = true
theorem pageB_true {p : ah} {last : Int} {x : aw} : ll p last x = true ↔ ly p last x := by
 unfold ll
 simp only [Bool.and_eq_true, decide_eq_true_eq, inB_true]
 exact ⟨fun ⟨⟨⟨⟨⟨⟨h1, h2⟩, h3⟩, h4⟩, h5⟩, h6⟩, h7⟩ => ⟨h1, h2, h3, h4, h6, h5, h7⟩, fun h => ⟨⟨⟨⟨⟨⟨h.fr, h.to⟩, h.lt⟩, h.fst⟩, h.found⟩, h.snd⟩, h.well⟩⟩
theorem ma {t : ai} {x : aw} {r : Int} {l : List PlaceD} (h : ig t x r l = true) {q : PlaceD} (hq : q ∈ l) : fw t q = true ∧ ib t x q = true := by
 unfold ig at h
 rw [Bool.and_eq_true] at h
 obtain ⟨i, hi⟩ := List.getElem?_of_mem hq
 have := List.all_eq_true.1 h.2 i (List.mem_range.2 (List.getElem?_eq_some_iff.1 hi).1)
 unfold jm at this
 rw [hi] at this
 simp only [Bool.and_eq_true] at this
 exact this.1
theorem ult {t : ai} {x : aw} {r : Int} {l : List PlaceD} (h : ig t x r l = true) {i : Nat} {a q : PlaceD} (ha : l[i]? = some a) (hq : l[i + 1]? = some q) : fh (c9 a) (c9 q) < 0 := by
 unfold ig at h
 rw [Bool.and_eq_true] at h
 have := List.all_eq_true.1 h.2 (i + 1) (List.mem_range.2 (List.getElem?_eq_some_iff.1 hq).1)
 unfold jm at this
 rw [hq, Nat.add_sub_cancel, ha] at this
 have h9 : (fw t q = true ∧ ib t x q = true) ∧ fh (c9 a) (c9 q) < 0 := by simpa [mj] using this
 exact h9.2
theorem ue0 {a b c : PlaceD} (h : fh (c9 a) (c9 b) < 0) (k : fh (c9 b) (c9 c) < 0) : fh (c9 a) (c9 c) < 0 := by
 rw [m7 (by rfl)] at h k ⊢
 exact qn h k
theorem zj (a : PlaceD) : ¬ fh (c9 a) (c9 a) < 0 := by
 rw [m7 (by rfl)]
 exact oy _
theorem ug4 {l : List PlaceD} (h : ∀ (i : Nat) (a q : PlaceD), l[i]? = some a → l[i + 1]? = some q → fh (c9 a) (c9 q) < 0) : l.Pairwise fun a b => fh (c9 a) (c9 b) < 0 := by
 rw [List.pairwise_iff_getElem]
 intro i j hi hj hij
 have key : ∀ d (hd : i + 1 + d < l.length), fh (c9 l[i]) (c9 l[i + 1 + d]) < 0 := by
  intro d
  induction d with
  | zero => intro hd; exact h i _ _ (List.getElem?_eq_getElem hi) (List.getElem?_eq_getElem hd)
  | succ d ih =>
   intro hd
   exact ue0 (ih (by omega)) (h (i + 1 + d) _ _ (List.getElem?_eq_getElem (by omega)) (List.getElem?_eq_getElem hd))
 have := key (j - (i + 1)) (by omega)
 simpa [show i + 1 + (j - (i + 1)) = j by omega] using this
theorem vv {t : ai} {x : aw} {r : Int} {l : List PlaceD} (h : ig t x r l = true) : l.Pairwise fun a b => fh (c9 a) (c9 b) < 0 := ug4 fun _ _ _ ha hq => ult h ha hq
/-- lists in order, with the same places -/
theorem uf : ∀ {l m : List PlaceD}, l.Pairwise (fun a b => fh (c9 a) (c9 b) < 0) → m.Pairwise (fun a b => fh (c9 a) (c9 b) < 0) → (∀ q, q ∈ l ↔ q ∈ m) → l = m
 | [], [], _, _, _ => rfl
 | [], b :: m, _, _, h => by have := (h b).2 (List.mem_cons_self ..); cases this
 | a :: l, [], _, _, h => by have := (h a).1 (List.mem_cons_self ..); cases this
 | a :: l, b :: m, h1, h2, h => by
  rw [List.pairwise_cons] at h1 h2
  have hab : a = b := by
   have p1 := (h a).1 (List.mem_cons_self ..)
   have p2 := (h b).2 (List.mem_cons_self ..)
   rw [List.mem_cons] at p1 p2
   rcases p1 with rfl | p1
   ·rfl
   ·rcases p2 with rfl | p2
    ·rfl
    ·exact absurd (ue0 (h1.1 b p2) (h2.1 a p1)) (zj a)
  subst hab
  rw [uf h1.2 h2.2 fun q => ?_]
  constructor
  ·intro hq
   have := (h q).1 (List.mem_cons_of_mem _ hq)
   rw [List.mem_cons] at this
   rcases this with rfl | this
   ·exact absurd (h1.1 q hq) (zj q)
   ·exact this
  ·intro hq
   have := (h q).2 (List.mem_cons_of_mem _ hq)
   rw [List.mem_cons] at this
   rcases this with rfl | this
   ·exact absurd (h2.1 q hq) (zj q)
   ·exact this
/-! ### Pages between readers -/
def kf (p : ah) (j : Nat) (g : aw → Int) : Int := match p.pages[j]? with | some x => g x | none => 0
theorem ms {p : ah} {j : Nat} {x : aw} (h : p.pages[j]? = some x) (g : aw → Int) : kf p j g = g x := by unfold kf; rw [h]
def di (p : ah) (j : Nat) : Int := kf p j (p3 p.text)
def cy (p : ah) (j : Nat) : Int := kf p j fun x => ((cr p.text x).length : Int)
def ge (p : ah) (j : Nat) : Int := kf p j fun x => (dm p.text x : Int)
theorem x7 {p : ah} (h : eg p) : (bu p).Ok := by
 refine ⟨Nat.le_add_right _ _, fun j i hi => ?_, fun j i hi => ?_⟩
 ·simp only [bu] at hi ⊢
  cases hx : p.pages[j]? with
  | none => rw [hx] at hi; cases hi
  | some x =>
   rw [hx] at hi
   have hp := (pageB_true.1 (h.page j x hx)).fst
   dsimp only at hi
   by_cases q : 0 ≤ x.fst
   ·rw [decide_eq_true q, cond_true, Option.some.injEq] at hi
    omega
   ·rw [decide_eq_false q] at hi; cases hi
 ·simp only [bu, bt] at hi ⊢
  cases hx : p.pages[j]? with
  | none => rw [hx] at hi; cases hi
  | some x =>
   rw [hx] at hi
   have hp := (pageB_true.1 (h.page j x hx)).snd
   dsimp only at hi
   by_cases q : 0 ≤ x.snd
   ·rw [decide_eq_true q, cond_true, Option.some.injEq] at hi
    omega
   ·rw [decide_eq_false q] at hi; cases hi
/-- the readers of a page, as the program lists them -/
def dt (p : ah) (x : aw) : List Int := (bif decide (0 ≤ x.fst) then [x.fst] else []) ++ (bif decide (0 ≤ x.snd) then [(p.firsts.length : Int) + x.snd] else [])
theorem udh {p : ah} {j : Nat} {x : aw} (hx : p.pages[j]? = some x) (S : Nat → Bool) : (bu p).hit S j = (dt p x).any fun k => S k.toNat := by
 simp only [Net.hit, bu, hx, dt, List.any_append]
 congr 1
 ·cases decide (0 ≤ x.fst) <;> simp [ob]
 ·by_cases q : 0 ≤ x.snd
  ·simp [q, ob, show ((p.firsts.length : Int) + x.snd).toNat = p.firsts.length + x.snd.toNat by omega]
  ·simp [q, ob]
theorem qx {p : ah} (h : eg p) {j : Nat} {x : aw} (hx : p.pages[j]? = some x) (i : Nat) : (bu p).by j i = bif decide (i < p.firsts.length) then decide (eh false x = (i : Int)) else decide (eh true x = ((i - p.firsts.length : Nat) : Int)) := by
 have hp := pageB_true.1 (h.page j x hx)
 have h1 := hp.fst
 have h2 := hp.snd
 simp only [Net.by, bu, hx]
 rw [Bool.eq_iff_iff]
 by_cases hi : i < p.firsts.length
 ·rw [decide_eq_true hi, cond_true, Bool.or_eq_true, decide_eq_true_eq, decide_eq_true_eq, decide_eq_true_eq]
  show _ ↔ x.fst = (i : Int)
  constructor
  ·rintro (q | q)
   ·by_cases z : 0 ≤ x.fst
    ·rw [decide_eq_true z, cond_true, Option.some.injEq] at q; omega
    ·rw [decide_eq_false z] at q; cases q
   ·by_cases z : 0 ≤ x.snd
    ·rw [decide_eq_true z, cond_true, Option.some.injEq] at q; omega
    ·rw [decide_eq_false z] at q; cases q
  ·intro q
   left
   rw [decide_eq_true (show 0 ≤ x.fst by omega), cond_true, Option.some.injEq]
   omega
 ·rw [decide_eq_false hi, cond_false, Bool.or_eq_true, decide_eq_true_eq, decide_eq_true_eq, decide_eq_true_eq]
  show _ ↔ x.snd = ((i - p.firsts.length : Nat) : Int)
  constructor
  ·rintro (q | q)
   ·by_cases z : 0 ≤ x.fst
    ·rw [decide_eq_true z, cond_true, Option.some.injEq] at q; omega
    ·rw [decide_eq_false z] at q; cases q
   ·by_cases z : 0 ≤ x.snd
    ·rw [decide_eq_true z, cond_true, Option.some.injEq] at q; omega
    ·rw [decide_eq_false z] at q; cases q
  ·intro q
   right
   rw [decide_eq_true (show 0 ≤ x.snd by omega), cond_true, Option.some.injEq]
   omega
theorem uln {p : ah} {last : Int} {x : aw} (h : ly p last x) : (cr p.text x).length ≤ dm p.text x := by
 unfold cr dm
 rw [← List.countP_eq_length_filter, ← List.countP_eq_length_filter]
 refine List.countP_mono_left fun q _ hq => ?_
 rw [Bool.or_eq_true, decide_eq_true_eq, decide_eq_true_eq] at hq
 rcases hq with hq | hq
 ·exact (ma h.found hq).2
 ·exact (ma h.well hq).2
theorem ueo {p : ah} (h : eg p) (j : Nat) : 0 ≤ di p j := by
 unfold di kf
 cases hx : p.pages[j]? with
 | none => exact Int.le_refl _
 | some x =>
  have := uln (pageB_true.1 (h.page j x hx))
  show 0 ≤ p3 p.text x
  unfold p3
  omega
def qy (p : ah) (i : Nat) : Int := bif decide (i < p.firsts.length) then da p false i else da p true (i - p.firsts.length)
/-- of the bound of a reader is left what is not told -/
theorem ukt {p : ah} (h : eg p) (i : Nat) : c4 p i = qy p i - sm p.pages.length (fun j => bif (bu p).by j i then cy p j else 0) := by
 have key : ∀ (b : Bool) (k : Int), (∀ (j : Nat) (x : aw), p.pages[j]? = some x → (bu p).by j i = decide (eh b x = k)) → ((ei p.pages (iz p.text b k) : Nat) : Int) = sm p.pages.length (fun j => bif (bu p).by j i then cy p j else 0) := fun b k hb => by
  rw [ugy]
  refine je fun j hj => ?_
  have hx : p.pages[j]? = some p.pages[j] := List.getElem?_eq_getElem hj
  rw [hb j _ hx]
  unfold cy
  rw [ms hx, hx]
  dsimp only
  unfold iz
  cases decide (eh b p.pages[j] = k) <;> rfl
 unfold c4 qy
 by_cases hi : i < p.firsts.length
 ·rw [decide_eq_true hi, cond_true, cond_true]
  unfold mz
  rw [key false i fun j x hx => by rw [qx h hx, decide_eq_true hi, cond_true]]
 ·rw [decide_eq_false hi, cond_false, cond_false]
  unfold mz
  rw [key true _ fun j x hx => by rw [qx h hx, decide_eq_false hi, cond_false]]
end Go.AB
namespace Go.AB
open Go Go.RowKit
open Go.AB.Enc (cells)
/-- the numbers of a set -/
def u7 (n s : Nat) : List Nat := (List.range n).filter fun i => s.testBit i
def ec (n s : Nat) : List Int := (u7 n s).map fun i : Nat => (i : Int)
theorem u9 (n s : Nat) : ec (n + 1) s = ec n s ++ (bif s.testBit n then [(n : Int)] else []) := by
 unfold ec u7
 rw [List.range_succ, List.filter_append, List.map_append]
 cases h : s.testBit n <;> simp [h]
theorem pp (n s : Nat) : (ec n s).length ≤ n := by
 unfold ec u7
 rw [List.length_map]
 have := List.length_filter_le (fun i => s.testBit i) (List.range n)
 rwa [List.length_range] at this
theorem membersL_mem {n s : Nat} {x : Int} : x ∈ ec n s ↔ ∃ i : Nat, x = (i : Int) ∧ i < n ∧ s.testBit i = true := by
 unfold ec u7
 simp only [List.mem_map, List.mem_filter, List.mem_range]
 exact ⟨fun ⟨i, ⟨h1, h2⟩, h3⟩ => ⟨i, h3.symm, h1, h2⟩, fun ⟨i, h3, h1, h2⟩ => ⟨i, ⟨h1, h2⟩, h3.symm⟩⟩
/-- the order of lists: shorter ones first, then by their numbers -/
def gu (a b : List Int) : Bool := decide (a.length < b.length) || (decide (a.length = b.length) && decide (fh a b < 0))
theorem tm {a b : List Int} : gu a b = true ↔ a.length < b.length ∨ (a.length = b.length ∧ ltW a b) := by
 unfold gu
 rw [Bool.or_eq_true, Bool.and_eq_true, decide_eq_true_eq, decide_eq_true_eq, decide_eq_true_eq]
 constructor
 ·rintro (h | ⟨h1, h2⟩)
  ·exact .inl h
  ·exact .inr ⟨h1, (m7 h1).1 h2⟩
 ·rintro (h | ⟨h1, h2⟩)
  ·exact .inl h
  ·exact .inr ⟨h1, (m7 h1).2 h2⟩
theorem zk (a : List Int) : gu a a = false := by
 rw [← Bool.not_eq_true, tm]
 rintro (h | ⟨_, h⟩)
 ·omega
 ·exact oy a h
theorem um8 {a b c : List Int} (h : gu a b = true) (k : gu b c = true) : gu a c = true := by
 rw [tm] at *
 rcases h with h | ⟨h1, h2⟩
 ·rcases k with k | ⟨k1, _⟩
  ·exact .inl (by omega)
  ·exact .inl (by omega)
 ·rcases k with k | ⟨k1, k2⟩
  ·exact .inl (by omega)
  ·exact .inr ⟨by omega, qn h2 k2⟩
/-- what is found among the first sets -/
def fj (so : Nat → Bool) (n : Nat) : Nat → Option (List Int)
 | 0 => none
 | k + 1 => match fj so n k with
  | none => bif so k then some (ec n k) else none
  | some b => bif so k && gu (ec n k) b then some (ec n k) else some b
def lx (so : Nat → Bool) (n : Nat) : List Int := (fj so n (2 ^ n)).getD []
structure ufk (so : Nat → Bool) (n k : Nat) (b : List Int) : Prop where
 get : ∃ s, s < k ∧ so s = true ∧ b = ec n s
 min : ∀ s, s < k → so s = true → gu (ec n s) b = false
theorem tj (so : Nat → Bool) (n : Nat) : ∀ k, (fj so n k = none ∧ ∀ s, s < k → so s = false) ∨ ∃ b, fj so n k = some b ∧ ufk so n k b
 | 0 => .inl ⟨rfl, fun s h => absurd h (Nat.not_lt_zero _)⟩
 | k + 1 => by
  rcases tj so n k with ⟨h1, h2⟩ | ⟨b, h1, h2⟩
  ·simp only [fj, h1]
   cases hs : so k
   ·exact .inl ⟨rfl, fun s h => by
     by_cases e : s = k
     ·subst e; exact hs
     ·exact h2 s (by omega)⟩
   ·exact .inr ⟨_, rfl, ⟨k, by omega, hs, rfl⟩, fun s h hso => by
     by_cases e : s = k
     ·subst e; exact zk _
     ·rw [h2 s (by omega)] at hso; cases hso⟩
  ·simp only [fj, h1]
   right
   cases hs : so k && gu (ec n k) b
   ·refine ⟨b, rfl, ?_, fun s h hso => ?_⟩
    ·obtain ⟨s, q1, q2, q3⟩ := h2.get
     exact ⟨s, by omega, q2, q3⟩
    ·by_cases e : s = k
     ·subst e
      rw [hso, Bool.true_and] at hs
      exact hs
     ·exact h2.min s (by omega) hso
   ·rw [Bool.and_eq_true] at hs
    refine ⟨_, rfl, ⟨k, by omega, hs.1, rfl⟩, fun s h hso => ?_⟩
    by_cases e : s = k
    ·subst e; exact zk _
    ·rw [← Bool.not_eq_true]
     intro hb
     have := um8 hb hs.2
     rw [h2.min s (by omega) hso] at this
     cases this
/-- one that is so, and none ahead of it -/
theorem um7 {so : Nat → Bool} {n : Nat} (h : ∃ s, s < 2 ^ n ∧ so s = true) : ufk so n (2 ^ n) (lx so n) := by
 obtain ⟨s, h1, h2⟩ := h
 rcases tj so n (2 ^ n) with ⟨_, q⟩ | ⟨b, q1, q2⟩
 ·rw [q s h1] at h2; cases h2
 ·unfold lx
  rw [q1]
  exact q2
theorem zi (so : Nat → Bool) (n : Nat) : (lx so n).length ≤ n := by
 unfold lx
 rcases tj so n (2 ^ n) with ⟨h, _⟩ | ⟨b, h, k⟩
 ·rw [h]; exact Nat.zero_le _
 ·rw [h]
  obtain ⟨s, _, _, rfl⟩ := k.get
  exact pp n s
theorem uez {so : Nat → Bool} {n k : Nat} (h : fj so n k = none) : fj so n (k + 1) = bif so k then some (ec n k) else none := by simp only [fj, h]
theorem zh {so : Nat → Bool} {n k : Nat} {b : List Int} (h : fj so n k = some b) : fj so n (k + 1) = bif so k && gu (ec n k) b then some (ec n k) else some b := by simp only [fj, h]
/-! ### Lists of numbers that are looked up -/
def bn (n : Nat) (R : Nat → Int) : List Int := (List.range n).map R
theorem g3 (n : Nat) (R : Nat → Int) : (bn n R).length = n := by simp [bn]
theorem ke {n i : Nat} (R : Nat → Int) (h : i < n) : (bn n R)[i]? = some (R i) := by simp [bn, h]
theorem pc (n : Nat) (R : Nat → Int) : bn (n + 1) R = bn n R ++ [R n] := by
 unfold bn
 rw [List.range_succ, List.map_append]; rfl
theorem w9 {n i : Nat} (R : Nat → Int) (v : Int) (h : i < n) : (bn n R).set i v = bn n fun k => bif decide (k = i) then v else R k := by
 apply List.ext_getElem?
 intro k
 rw [List.getElem?_set, g3]
 by_cases hk : k < n
 ·rw [ke (fun k => bif decide (k = i) then v else R k) hk, ke R hk]
  by_cases e : i = k
  ·subst e; rw [if_pos rfl, if_pos h, decide_eq_true rfl]; rfl
  ·rw [if_neg e, decide_eq_false (Ne.symm e)]; rfl
 ·rw [List.getElem?_eq_none (by rw [g3]; omega)]
  rw [if_neg (by omega), List.getElem?_eq_none (by rw [g3]; omega)]
end Go.AB
namespace Go.AB
open Go Go.RowKit
open Go.AB.Enc (cells)
open Go.PB (ba ai PlaceD bh bj bi bw aw ah cw br)
/-! ### All places are in order -/
theorem uni (t : ai) : (gw t).Pairwise fun a b => fh (c9 a) (c9 b) < 0 := by
 unfold gw
 rw [List.pairwise_map, List.pairwise_iff_getElem]
 intro i j hi hj hij
 have h1 := List.getElem?_eq_getElem hi
 have h2 := List.getElem?_eq_getElem hj
 have h := ujq (uff h1).1 (uff h2).1
 rw [x4 h1 rfl, x4 h2 rfl] at h
 rw [m7 (by rfl), ← h]
 omega
theorem allQ_mem {t : ai} {q : PlaceD} : q ∈ gw t ↔ fw t q = true := allP_mem
theorem vw {t : ai} (f : PlaceD → Bool) : ((gw t).filter f).Pairwise fun a b => fh (c9 a) (c9 b) < 0 := (uni t).filter _
/-- places in order, of a text, are those of all places that are among them -/
theorem uhb {t : ai} {l : List PlaceD} (h : l.Pairwise fun a b => fh (c9 a) (c9 b) < 0) (hp : ∀ q ∈ l, fw t q = true) : l = (gw t).filter fun q => decide (q ∈ l) :=
 uf h (vw _) fun q => by
  rw [List.mem_filter, decide_eq_true_eq, allQ_mem]
  exact ⟨fun h => ⟨hp q h, h⟩, fun h => h.2⟩
theorem ulu {t : ai} {x : aw} {r : Int} {l : List PlaceD} (h : ig t x r l = true) : l = (gw t).filter fun q => decide (q ∈ l) := uhb (vv h) fun q hq => (ma h hq).1
theorem o6 {t : ai} {x : aw} {r : Int} {l : List PlaceD} (h : ig t x r l = true) : l.length ≤ (gw t).length := by
 rw [ulu h]
 exact List.length_filter_le _ _
theorem te (t : ai) (x : aw) : (cr t x).length ≤ (gw t).length := List.length_filter_le _ _
theorem uev (t : ai) (x : aw) : (dj t x).length ≤ (gw t).length := List.length_filter_le _ _
theorem rm (t : ai) (x : aw) : dm t x ≤ (gw t).length := List.length_filter_le _ _
/-! ### How great numbers are -/
theorem xa {g : aw → Nat} {m : Nat} : ∀ {l : List aw}, (∀ x ∈ l, g x ≤ m) → ei l g ≤ l.length * m
 | [], _ => by simp [ei]
 | x :: l, h => by
  have h1 := xa (l := l) fun y hy => h y (List.mem_cons_of_mem _ hy)
  have h2 := h x (List.mem_cons_self ..)
  simp only [ei, List.map_cons, List.sum_cons, List.length_cons] at h1 ⊢
  rw [Nat.succ_mul]
  omega
theorem ubx {p : ah} (h : eg p) (b : Bool) (i : Int) : ei p.pages (g5 b i) ≤ 4800 := by
 have hq := nd h.text
 have h1 := xa (l := p.pages) (g := g5 b i) (m := 600) fun x hx => by
  obtain ⟨j, hj⟩ := List.getElem?_of_mem hx
  have hp := pageB_true.1 (h.page j x hj)
  unfold g5
  cases decide (eh b x = i)
  ·exact Nat.zero_le _
  ·cases b
   ·have := o6 hp.found
    show x.found.length ≤ 600
    omega
   ·have := o6 hp.well
    show x.well.length ≤ 600
    omega
 have := h.np
 have h2 : p.pages.length * 600 ≤ 8 * 600 := Nat.mul_le_mul_right _ this
 omega
theorem ua9 {p : ah} (h : eg p) (b : Bool) (i : Int) : ei p.pages (iz p.text b i) ≤ 4800 := by
 have hq := nd h.text
 have h1 := xa (l := p.pages) (g := iz p.text b i) (m := 600) fun x hx => by
  have := te p.text x
  unfold iz
  cases decide (eh b x = i)
  ·exact Nat.zero_le _
  ·show (cr p.text x).length ≤ 600
   omega
 have := h.np
 have h2 : p.pages.length * 600 ≤ 8 * 600 := Nat.mul_le_mul_right _ this
 omega
theorem ucj {p : ah} (h : eg p) (b : Bool) (i : Nat) : 0 ≤ k9 p b i ∧ k9 p b i ≤ 90 := by
 unfold k9
 cases hr : (dv p b)[i]? with
 | none => exact ⟨Int.le_refl _, by show (0 : Int) ≤ 90; omega⟩
 | some r =>
  have hm := List.mem_of_getElem? hr
  have : gy r = true := h.rd r (by
   rw [List.mem_append]
   cases b
   ·exact .inl hm
   ·exact .inr hm)
  unfold gy at this
  rw [Bool.and_eq_true, inB_true, inB_true] at this
  exact this.2
theorem n7 {p : ah} (h : eg p) (b : Bool) (i : Nat) : 0 ≤ da p b i ∧ da p b i ≤ 48000 := by
 have h1 := ubx h b i
 have h2 := ucj h b i
 unfold da
 have h3 : (0 : Int) < 100 - k9 p b i := by omega
 refine ⟨Int.ediv_nonneg (by omega) (by omega), ?_⟩
 have h4 : 100 * ((ei p.pages (g5 b i) : Nat) : Int) / (100 - k9 p b i) ≤ 100 * ((ei p.pages (g5 b i) : Nat) : Int) / 10 := by
  refine Int.le_ediv_of_mul_le (by omega) ?_
  have h5 := Int.ediv_mul_le (100 * ((ei p.pages (g5 b i) : Nat) : Int)) (show (100 - k9 p b i) ≠ 0 by omega)
  have h6 : 0 ≤ 100 * ((ei p.pages (g5 b i) : Nat) : Int) / (100 - k9 p b i) := Int.ediv_nonneg (by omega) (by omega)
  have h7 : 100 * ((ei p.pages (g5 b i) : Nat) : Int) / (100 - k9 p b i) * 10 ≤ 100 * ((ei p.pages (g5 b i) : Nat) : Int) / (100 - k9 p b i) * (100 - k9 p b i) := Int.mul_le_mul_of_nonneg_left (by omega) h6
  omega
 omega
theorem uc1 {p : ah} (h : eg p) (b : Bool) (i : Nat) : -4800 ≤ mz p b i ∧ mz p b i ≤ 48000 := by
 have h1 := n7 h b i
 have h2 := ua9 h b i
 unfold mz
 omega
theorem uku {p : ah} (h : eg p) (i : Nat) : -4800 ≤ c4 p i ∧ c4 p i ≤ 48000 := by
 unfold c4
 cases decide (i < p.firsts.length)
 ·exact uc1 h _ _
 ·exact uc1 h _ _
theorem uep {p : ah} (h : eg p) (j : Nat) : 0 ≤ di p j ∧ di p j ≤ 600 := by
 refine ⟨ueo h j, ?_⟩
 have hq := nd h.text
 unfold di kf
 cases hx : p.pages[j]? with
 | none => show (0 : Int) ≤ 600; omega
 | some x =>
  have := rm p.text x
  show p3 p.text x ≤ 600
  unfold p3
  omega
/-! ### What is told -/
def eo (p : ah) (n : Int) : Int := bif decide (cv p = 0) then (bif inB n 0 ((p.pages.length : Int) - 1) then 0 else 2) else cv p
def fo (p : ah) (e : Int) : Int := bif decide (e = 0) then (bif i6 p then 0 else 8) else e
def jz (p : ah) (b : Bool) (n : Int) : Int := bif decide (cv p = 0) then (bif inB n 0 (((dv p b).length : Int) - 1) then 0 else 2) else cv p
def jb (p : ah) (m : Int) : Int := bif decide (cv p = 0) then (bif decide (m < 0) then 2 else bif i6 p then 0 else 8) else cv p
def atE {α : Type} (e : Int) (d v : α) : α := bif decide (e = 0) then v else d
def l5 (p : ah) (n : Int) : aw := (p.pages[n.toNat]?).getD ⟨0, 0, 0, 0, [], []⟩
def ne (p : ah) (n : Int) : Int := atE (eo p n) 0 (dm p.text (l5 p n) : Int)
def o5 (p : ah) (n : Int) : List PlaceD := atE (eo p n) [] (cr p.text (l5 p n))
def qz (p : ah) (n : Int) : List PlaceD := atE (eo p n) [] (dj p.text (l5 p n))
def mh (p : ah) (b : Bool) (n : Int) : Int := atE (jz p b n) 0 (da p b n.toNat)
def m4 (p : ah) (n : Int) : Int := bif decide (eo p n = 0) then (bif decide ((dj p.text (l5 p n)).length = 0) then 6 else 0) else eo p n
def yo (x : aw) (k : Nat) : br := ⟨((x.found.length * x.well.length / k : Nat) : Int), (((x.found.length * x.well.length + k - 1) / k : Nat) : Int)⟩
def n1 (p : ah) (n : Int) : br := atE (m4 p n) ⟨0, 0⟩ (yo (l5 p n) (dj p.text (l5 p n)).length)
def pi (p : ah) (n : Int) : br := atE (fo p (eo p n)) ⟨0, 0⟩ ⟨0, (bu p).alone (c4 p) (di p) n.toNat⟩
def lz (p : ah) : Int := (bu p).most (c4 p) (di p)
def oo (p : ah) : br := atE (fo p (cv p)) ⟨0, 0⟩ ⟨0, lz p⟩
def jq (p : ah) : Nat → Int := (bu p).worst (c4 p) (di p)
def pa (p : ah) : List Int := atE (fo p (cv p)) [] (bn p.pages.length (jq p))
def ng (p : ah) (s : Nat) : Bool := decide ((bu p).f (c4 p) (di p) (fun i => s.testBit i) = lz p)
def ep (p : ah) : List Int := lx (ng p) (bt p)
def jk (p : ah) (l : List Int) : List Int := l.filter fun k => decide (k < (p.firsts.length : Int))
def jd (p : ah) (l : List Int) : List Int := (l.filter fun k => !decide (k < (p.firsts.length : Int))).map fun k => k - (p.firsts.length : Int)
def jc (C : Nat → Int) (l : List Int) (j : Nat) : Int := bif decide ((j : Int) ∈ l) then 0 else C j
def ufg (p : ah) (l : List Int) : Int := (bu p).most (c4 p) (jc (di p) l)
def ti (p : ah) (m : Int) (s : Nat) : Bool := decide (ufg p (ec p.pages.length s) ≤ m)
def j8 (p : ah) (m : Int) : List Int := atE (jb p m) [] (lx (ti p m) p.pages.length)
end
theorem wl (C : Nat → Int) : jc C [] = C := by funext j; simp [jc]
theorem ufo (C : Nat → Int) (l : List Int) (i : Nat) : jc C (l ++ [(i : Int)]) = er (jc C l) i := by
 funext j
 unfold jc er
 by_cases e : j = i
 ·subst e; simp
 ·rw [decide_eq_false e, cond_false]
  congr 1
  rw [decide_eq_decide, List.mem_append, List.mem_singleton]
  constructor
  ·rintro (h | h)
   ·exact h
   ·omega
  ·exact .inl
theorem uko (N : Net) (R : Nat → Int) (j : Nat) : N.lessR R j 0 = R := by
 funext i
 unfold Net.lessR
 cases N.by j i <;> simp
theorem ugn {p : ah} (h : i6 p = true) : ∀ i, i < (bu p).nr → 0 ≤ c4 p i := fun i hi => by
 have := List.all_eq_true.1 h i (List.mem_range.2 hi)
 exact of_decide_eq_true this
/-- some readers prove the most that remains -/
theorem uf7 {p : ah} (h : eg p) : ∃ s, s < 2 ^ bt p ∧ ng p s = true := by
 obtain ⟨s, h1, h2⟩ := u6 (g := fun s => (bu p).f (c4 p) (di p) fun i => s.testBit i) (2 ^ (bu p).nr)
 refine ⟨s, ?_, decide_eq_true h2.symm⟩
 have : 0 < 2 ^ bt p := Nat.two_pow_pos _
 have e : (bu p).nr = bt p := rfl
 rw [e] at h1
 omega
end Go.AB
namespace Go.AB
open Go Go.RowKit
open Go.AB.Enc (cells)
open Go.PB (ba ai PlaceD bh bj bi bw aw ah cw br)
theorem xd : ∀ (a b : Nat) (g : Nat → Int), sm (a + b) g = sm a g + sm b fun i => g (a + i)
 | a, 0, g => by simp [sm]
 | a, b + 1, g => by
  have := xd a b g
  rw [show a + (b + 1) = (a + b) + 1 from rfl]
  simp only [sm]
  omega
/-! ### Readers who miss less -/
end Go.AB
namespace Go.AB
open Go Go.RowKit
open Go.AB.Enc (cells)
open Go.PB (ba ai PlaceD bh bj bi bw aw ah cw br)
/-- a page has a reader of a set -/
def hitX (p : ah) (S : Nat → Bool) (x : aw) : Bool := (dt p x).any fun k => S k.toNat
theorem ulf {p : ah} {j : Nat} {x : aw} (hx : p.pages[j]? = some x) (S : Nat → Bool) : (bu p).hit S j = hitX p S x := udh hx S
end Go.AB
namespace Go.AB
open Go Go.RowKit
open Go.AB.Enc (cells)
open Go.PB (ba ai PlaceD bh bj bi bw aw ah cw br)
/-- a set, as a list -/
def cz (n : Nat) (S : Nat → Bool) : List Int := ((List.range n).filter S).map fun i : Nat => (i : Int)
theorem sq (n : Nat) (S : Nat → Bool) : cz (n + 1) S = cz n S ++ (bif S n then [(n : Int)] else []) := by
 unfold cz
 rw [List.range_succ, List.filter_append, List.map_append]
 cases h : S n <;> simp [h]
theorem memL_mem {n : Nat} {S : Nat → Bool} {x : Int} : x ∈ cz n S ↔ ∃ i : Nat, x = (i : Int) ∧ i < n ∧ S i = true := by
 unfold cz
 simp only [List.mem_map, List.mem_filter, List.mem_range]
 exact ⟨fun ⟨i, ⟨h1, h2⟩, h3⟩ => ⟨i, h3.symm, h1, h2⟩, fun ⟨i, h3, h1, h2⟩ => ⟨i, ⟨h1, h2⟩, h3.symm⟩⟩
theorem uco (n : Nat) (S : Nat → Bool) : (cz n S).length ≤ n := by
 unfold cz
 rw [List.length_map]
 have := List.length_filter_le S (List.range n)
 rwa [List.length_range] at this
theorem yb {n : Nat} {S S' : Nat → Bool} (h : ∀ i, i < n → S i = S' i) : cz n S = cz n S' := by
 unfold cz
 rw [List.filter_congr fun i hi => h i (List.mem_range.1 hi)]
/-- the sum of what the numbers of a list have -/
def iq (l : List Int) (g : Int → Int) : Int := (l.map g).sum
theorem udd (l : List Int) (x : Int) (g : Int → Int) : iq (l ++ [x]) g = iq l g + g x := by simp [iq]
theorem yi (S : Nat → Bool) (g : Int → Int) : ∀ n, iq (cz n S) g = sm n fun i => bif S i then g (i : Int) else 0
 | 0 => rfl
 | n + 1 => by
  have := yi S g n
  rw [sq]
  cases h : S n
  ·simp only [cond_false, List.append_nil, sm, h]; omega
  ·simp only [cond_true, udd, sm, h]; omega
/-- what a page has in what some readers prove -/
def cj (p : ah) (F S but : List Int) (j : Nat) : Int := kf p j fun x =>
 (bif !decide (x.fst ∈ F) && !decide (x.snd ∈ S) && !decide ((j : Int) ∈ but) then p3 p.text x else 0) - (bif decide (x.fst ∈ F) then ((cr p.text x).length : Int) else 0) - (bif decide (x.snd ∈ S) then ((cr p.text x).length : Int) else 0)
/-- what some readers prove of all pages but some -/
def nl (p : ah) (F S but : List Int) : Int := sm p.pages.length (cj p F S but) + iq F (fun i => da p false i.toNat) + iq S (fun i => da p true i.toNat)
theorem uli {p : ah} {last : Int} {x : aw} (h : ly p last x) (S : Nat → Bool) : decide (x.fst ∈ cz p.firsts.length S) = (decide (0 ≤ x.fst) && S x.fst.toNat) := by
 have h1 := h.fst
 rw [Bool.eq_iff_iff, decide_eq_true_eq, memL_mem, Bool.and_eq_true, decide_eq_true_eq]
 constructor
 ·rintro ⟨i, e, _, k⟩
  rw [e, Int.toNat_natCast]
  exact ⟨by omega, k⟩
 ·rintro ⟨h2, h3⟩
  exact ⟨x.fst.toNat, by omega, by omega, h3⟩
theorem ulh {p : ah} {last : Int} {x : aw} (h : ly p last x) (S : Nat → Bool) : decide (x.snd ∈ cz p.seconds.length S) = (decide (0 ≤ x.snd) && S x.snd.toNat) := by
 have h1 := h.snd
 rw [Bool.eq_iff_iff, decide_eq_true_eq, memL_mem, Bool.and_eq_true, decide_eq_true_eq]
 constructor
 ·rintro ⟨i, e, _, k⟩
  rw [e, Int.toNat_natCast]
  exact ⟨by omega, k⟩
 ·rintro ⟨h2, h3⟩
  exact ⟨x.snd.toNat, by omega, by omega, h3⟩
theorem ulg (p : ah) (S : Nat → Bool) (x : aw) : hitX p S x = ((decide (0 ≤ x.fst) && S x.fst.toNat) || (decide (0 ≤ x.snd) && S (p.firsts.length + x.snd.toNat))) := by
 unfold hitX dt
 rw [List.any_append]
 congr 1
 ·cases decide (0 ≤ x.fst) <;> simp
 ·by_cases q : 0 ≤ x.snd
  ·simp [q, show ((p.firsts.length : Int) + x.snd).toNat = p.firsts.length + x.snd.toNat by omega]
  ·simp [q]
/-- .. is what the set of them proves -/
theorem ubg {p : ah} (h : eg p) (S : Nat → Bool) (but : List Int) : nl p (cz p.firsts.length S) (cz p.seconds.length fun i => S (p.firsts.length + i)) but = (bu p).f (c4 p) (jc (di p) but) S := by
 -- the readers' part
 have hR : sm (bt p) (fun i => bif S i then c4 p i else 0) = sm (bt p) (fun i => bif S i then qy p i else 0) - sm p.pages.length (fun j => sm (bt p) fun i => bif S i then (bif (bu p).by j i then cy p j else 0) else 0) := by
  have e : sm p.pages.length (fun j => sm (bt p) fun i => bif S i then (bif (bu p).by j i then cy p j else 0) else 0) = sm (bt p) (fun i => bif S i then sm p.pages.length (fun j => bif (bu p).by j i then cy p j else 0) else 0) := by
   rw [← uar]
   refine je fun i _ => ?_
   cases S i
   ·simp only [cond_false]; exact oq _
   ·simp only [cond_true]
  rw [e, ← pd]
  refine je fun i _ => ?_
  have := ukt h i
  cases S i
  ·simp
  ·simp only [cond_true]; exact this
 have hB : sm (bt p) (fun i => bif S i then qy p i else 0) = iq (cz p.firsts.length S) (fun i => da p false i.toNat) + iq (cz p.seconds.length fun i => S (p.firsts.length + i)) (fun i => da p true i.toNat) := by
  rw [yi, yi]
  unfold bt
  rw [xd]
  congr 1
  ·refine je fun i hi => ?_
   unfold qy
   rw [decide_eq_true hi, cond_true, Int.toNat_natCast]
  ·refine je fun i hi => ?_
   unfold qy
   rw [decide_eq_false (show ¬ p.firsts.length + i < p.firsts.length by omega), cond_false, Nat.add_sub_cancel_left, Int.toNat_natCast]
 -- each page
 have hP : ∀ j, j < p.pages.length → cj p (cz p.firsts.length S) (cz p.seconds.length fun i => S (p.firsts.length + i)) but j = (bif (bu p).hit S j then 0 else jc (di p) but j) - sm (bt p) (fun i => bif S i then (bif (bu p).by j i then cy p j else 0) else 0) := fun j hj => by
  have hx : p.pages[j]? = some p.pages[j] := List.getElem?_eq_getElem hj
  obtain ⟨x, hxe⟩ : ∃ x, p.pages[j] = x := ⟨_, rfl⟩
  rw [hxe] at hx
  have hp := pageB_true.1 (h.page j x hx)
  have h1 := hp.fst
  have h2 := hp.snd
  have hsum : sm (bt p) (fun i => bif S i then (bif (bu p).by j i then cy p j else 0) else 0) = (bif decide (0 ≤ x.fst) && S x.fst.toNat then ((cr p.text x).length : Int) else 0) + (bif decide (0 ≤ x.snd) && S (p.firsts.length + x.snd.toNat) then ((cr p.text x).length : Int) else 0) := by
   unfold bt
   rw [xd]
   have ht : cy p j = ((cr p.text x).length : Int) := ms hx _
   congr 1
   ·by_cases q : 0 ≤ x.fst
    ·have := pf (n := p.firsts.length) (k := x.fst.toNat) (by omega) (bif S x.fst.toNat then ((cr p.text x).length : Int) else 0)
     rw [decide_eq_true q, Bool.true_and, ← this]
     refine je fun i hi => ?_
     rw [qx h hx, decide_eq_true hi, cond_true, ht]
     by_cases e : i = x.fst.toNat
     ·subst e
      rw [decide_eq_true (show eh false x = ((x.fst.toNat : Nat) : Int) by show x.fst = _; omega), decide_eq_true rfl]; rfl
     ·rw [decide_eq_false (show ¬ eh false x = (i : Int) by show ¬ x.fst = _; omega), decide_eq_false e]
      cases S i <;> rfl
    ·rw [decide_eq_false q, Bool.false_and, cond_false]
     refine Eq.trans (je (h := fun _ => 0) fun i hi => ?_) (oq _)
     rw [qx h hx, decide_eq_true hi, cond_true, decide_eq_false (show ¬ eh false x = (i : Int) by show ¬ x.fst = _; omega)]
     cases S i <;> rfl
   ·by_cases q : 0 ≤ x.snd
    ·have := pf (n := p.seconds.length) (k := x.snd.toNat) (by omega) (bif S (p.firsts.length + x.snd.toNat) then ((cr p.text x).length : Int) else 0)
     rw [decide_eq_true q, Bool.true_and, ← this]
     refine je fun i hi => ?_
     rw [qx h hx, decide_eq_false (show ¬ p.firsts.length + i < p.firsts.length by omega), cond_false, Nat.add_sub_cancel_left, ht]
     by_cases e : i = x.snd.toNat
     ·subst e
      rw [decide_eq_true (show eh true x = ((x.snd.toNat : Nat) : Int) by show x.snd = _; omega), decide_eq_true rfl]; rfl
     ·rw [decide_eq_false (show ¬ eh true x = (i : Int) by show ¬ x.snd = _; omega), decide_eq_false e]
      cases S (p.firsts.length + i) <;> rfl
    ·rw [decide_eq_false q, Bool.false_and, cond_false]
     refine Eq.trans (je (h := fun _ => 0) fun i hi => ?_) (oq _)
     rw [qx h hx, decide_eq_false (show ¬ p.firsts.length + i < p.firsts.length by omega), cond_false, Nat.add_sub_cancel_left, decide_eq_false (show ¬ eh true x = (i : Int) by show ¬ x.snd = _; omega)]
     cases S (p.firsts.length + i) <;> rfl
  rw [hsum, ulf hx, ulg]
  unfold cj
  rw [ms hx, uli hp, ulh hp]
  have hz : jc (di p) but j = bif decide ((j : Int) ∈ but) then 0 else p3 p.text x := by
   unfold jc di
   rw [ms hx]
  rw [hz]
  cases decide (0 ≤ x.fst) && S x.fst.toNat <;> cases decide (0 ≤ x.snd) && S (p.firsts.length + x.snd.toNat) <;> cases decide ((j : Int) ∈ but) <;> simp <;> omega
 have hsm : sm p.pages.length (cj p (cz p.firsts.length S) (cz p.seconds.length fun i => S (p.firsts.length + i)) but) = sm p.pages.length (fun j => bif (bu p).hit S j then 0 else jc (di p) but j) - sm p.pages.length (fun j => sm (bt p) fun i => bif S i then (bif (bu p).by j i then cy p j else 0) else 0) := by
  rw [← pd]
  exact je hP
 unfold nl Net.f
 rw [hsm]
 show _ = sm (bt p) (fun i => bif S i then c4 p i else 0) + sm p.pages.length (fun j => bif (bu p).hit S j then 0 else jc (di p) but j)
 omega
end Go.AB
namespace Go.AB
open Go Go.RowKit
open Go.AB.Enc (cells)
open Go.PB (ba ai PlaceD bh bj bi bw aw ah cw br)
theorem vc (a : Nat) (S : Nat → Bool) : ∀ b, cz (a + b) S = cz a S ++ (cz b fun i => S (a + i)).map fun k => (a : Int) + k
 | 0 => by simp [cz]
 | b + 1 => by
  rw [show a + (b + 1) = (a + b) + 1 from rfl, sq, vc a S b, sq, List.map_append, List.append_assoc]
  cases S (a + b) <;> simp
/-- both lists as one -/
def ii (a b : List Int) : List Int := a ++ b.map fun k => k + 3
def upI (a : Nat) (k : Int) : Int := bif decide (k < (a : Int)) then k else k - a + 3
theorem ucq {l : List Int} {f : Int → Int} (h : ∀ x ∈ l, f x = x) : l.map f = l := by
 induction l with
 | nil => rfl
 | cons x l ih => rw [List.map_cons, h x (List.mem_cons_self ..), ih fun y hy => h y (List.mem_cons_of_mem _ hy)]
theorem ues (a b : Nat) (S : Nat → Bool) : ii (cz a S) (cz b fun i => S (a + i)) = (cz (a + b) S).map (upI a) := by
 unfold ii
 rw [vc, List.map_append, List.map_map]
 have e1 : (cz a S).map (upI a) = cz a S := ucq fun x hx => by
  obtain ⟨i, e, hi, _⟩ := memL_mem.1 hx
  unfold upI
  rw [decide_eq_true (show x < (a : Int) by omega)]; rfl
 have e2 : (cz b fun i => S (a + i)).map (upI a ∘ fun k => (a : Int) + k) = (cz b fun i => S (a + i)).map fun k => k + 3 := List.map_congr_left fun x hx => by
  obtain ⟨i, e, hi, _⟩ := memL_mem.1 hx
  simp only [Function.comp]
  unfold upI
  rw [decide_eq_false (show ¬ (a : Int) + x < (a : Int) by omega), cond_false]
  omega
 rw [e1, e2]
theorem uac {a : Nat} (ha : a ≤ 3) {x y : Int} (hx : 0 ≤ x) : upI a x < upI a y ↔ x < y := by
 unfold upI
 by_cases q : x < (a : Int)
 ·by_cases r : y < (a : Int)
  ·rw [decide_eq_true q, decide_eq_true r]; exact Iff.rfl
  ·rw [decide_eq_true q, decide_eq_false r, cond_true, cond_false]; omega
 ·by_cases r : y < (a : Int)
  ·rw [decide_eq_false q, decide_eq_true r, cond_true, cond_false]; omega
  ·rw [decide_eq_false q, decide_eq_false r, cond_false, cond_false]; omega
theorem ucs {a : Nat} (ha : a ≤ 3) : ∀ {l m : List Int}, (∀ x ∈ l, 0 ≤ x) → (∀ x ∈ m, 0 ≤ x) → (ltW (l.map (upI a)) (m.map (upI a)) ↔ ltW l m)
 | [], _, _, _ => by simp [ltW]
 | _ :: _, [], _, _ => by simp [ltW]
 | x :: l, y :: m, h, k => by
  have hx := h x (List.mem_cons_self ..)
  have hy := k y (List.mem_cons_self ..)
  have ih := ucs ha (l := l) (m := m) (fun z hz => h z (List.mem_cons_of_mem _ hz)) (fun z hz => k z (List.mem_cons_of_mem _ hz))
  have h1 := uac ha (x := x) (y := y) hx
  have h2 := uac ha (x := y) (y := x) hy
  simp only [List.map_cons, ltW, h1, ih]
  constructor
  ·rintro (q | ⟨q, r⟩)
   ·exact .inl q
   ·exact .inr ⟨by omega, r⟩
  ·rintro (q | ⟨q, r⟩)
   ·exact .inl q
   ·exact .inr ⟨by rw [q], r⟩
theorem vd {n : Nat} {S : Nat → Bool} : ∀ x ∈ cz n S, 0 ≤ x := fun x hx => by
 obtain ⟨i, e, _, _⟩ := memL_mem.1 hx
 omega
/-- by the joined lists as by the sets -/
theorem una {a b : Nat} (ha : a ≤ 3) (S T : Nat → Bool) : gu (ii (cz a S) (cz b fun i => S (a + i))) (ii (cz a T) (cz b fun i => T (a + i))) = gu (cz (a + b) S) (cz (a + b) T) := by
 rw [ues, ues, Bool.eq_iff_iff, tm, tm, List.length_map, List.length_map, ucs ha vd vd]
/-- the readers of a set, apart -/
theorem ugd (p : ah) (S : Nat → Bool) : jk p (cz (bt p) S) = cz p.firsts.length S := by
 unfold jk bt
 rw [vc, List.filter_append]
 have e1 : (cz p.firsts.length S).filter (fun k => decide (k < (p.firsts.length : Int))) = cz p.firsts.length S := List.filter_eq_self.2 fun x hx => by
  obtain ⟨i, e, hi, _⟩ := memL_mem.1 hx
  exact decide_eq_true (by omega)
 have e2 : ((cz p.seconds.length fun i => S (p.firsts.length + i)).map fun k => (p.firsts.length : Int) + k).filter (fun k => decide (k < (p.firsts.length : Int))) = [] := List.filter_eq_nil_iff.2 fun x hx => by
  obtain ⟨y, hy, rfl⟩ := List.mem_map.1 hx
  have := vd y hy
  simp only [decide_eq_true_eq]
  omega
 rw [e1, e2, List.append_nil]
theorem uga (p : ah) (S : Nat → Bool) : jd p (cz (bt p) S) = cz p.seconds.length fun i => S (p.firsts.length + i) := by
 unfold jd bt
 rw [vc, List.filter_append]
 have e1 : (cz p.firsts.length S).filter (fun k => !decide (k < (p.firsts.length : Int))) = [] := List.filter_eq_nil_iff.2 fun x hx => by
  obtain ⟨i, e, hi, _⟩ := memL_mem.1 hx
  simp only [Bool.not_eq_true', decide_eq_false_iff_not, Decidable.not_not]
  omega
 have e2 : ((cz p.seconds.length fun i => S (p.firsts.length + i)).map fun k => (p.firsts.length : Int) + k).filter (fun k => !decide (k < (p.firsts.length : Int))) = (cz p.seconds.length fun i => S (p.firsts.length + i)).map fun k => (p.firsts.length : Int) + k := List.filter_eq_self.2 fun x hx => by
  obtain ⟨y, hy, rfl⟩ := List.mem_map.1 hx
  have := vd y hy
  simp only [Bool.not_eq_true', decide_eq_false_iff_not]
  omega
 rw [e1, e2, List.nil_append, List.map_map]
 refine ucq fun x _ => ?_
 simp only [Function.comp]
 omega
theorem ujv (p : ah) {S T : Nat → Bool} (h : eg p) (hs : ∀ i, i < bt p → S i = T i) (C : Nat → Int) : (bu p).f (c4 p) C S = (bu p).f (c4 p) C T := Net.f_congr (x7 h) hs
/-- who proves the most that remains -/
theorem uf8 {p : ah} (h : eg p) : ∃ T : Nat → Bool, ep p = cz (bt p) T ∧ (bu p).f (c4 p) (di p) T = lz p ∧ ∀ S : Nat → Bool, (bu p).f (c4 p) (di p) S = lz p → gu (cz (bt p) S) (cz (bt p) T) = false := by
 have hb := um7 (uf7 h)
 obtain ⟨s, h1, h2, h3⟩ := hb.get
 refine ⟨fun i => s.testBit i, h3, of_decide_eq_true h2, fun S hS => ?_⟩
 have hc : ∀ i, i < bt p → S i = (m8 S (bt p)).testBit i := fun i hi => by rw [zg, decide_eq_true hi, Bool.true_and]
 have := hb.min (m8 S (bt p)) (zf _ _) (by
  unfold ng
  rw [← ujv p h hc, hS]
  exact decide_eq_true rfl)
 rw [membersL_eq, h3, membersL_eq, ← yb hc] at this
 exact this
where
 membersL_eq {n s : Nat} : ec n s = cz n fun i => s.testBit i := rfl
end Go.AB
namespace Go.AB
open Go Go.RowKit
open Go.AB.Enc (cells)
open Go.PB (ba ai PlaceD bh bj bi bw aw ah cw br)
/-- as much as can be on a page, if nothing is lost by it -/
theorem Net.pick_alone {N : Net} {R C : Nat → Int} {j : Nat} (h0 : 0 ≤ N.alone R C j) (h : N.most R C ≤ N.alone R C j + N.most (N.lessR R j (N.alone R C j)) (er C j)) : N.pick R C j = N.alone R C j :=
 Net.pick_eq ⟨h0, Int.le_refl _, h, fun m h1 h2 => by omega⟩
def mn : ByteArray := ⟨#[116, 104, 101]⟩
def i5 : ByteArray := ⟨#[115, 101, 97]⟩
def xIs : ByteArray := ⟨#[105, 115]⟩
def mo : ByteArray := ⟨#[111, 108, 100]⟩
def rj : ByteArray := ⟨#[97, 110, 100]⟩
def exTx : ai := [⟨7, [[mn, i5, xIs, mo], [mo, mn, i5]]⟩, ⟨3, [[i5, rj, i5]]⟩]
def exPg : List aw := [⟨0, 0, 0, 0, [⟨0, 0, 0⟩], [⟨0, 0, 0⟩, ⟨0, 0, 3⟩]⟩, ⟨1, 2, 0, -1, [⟨0, 1, 1⟩], []⟩]
def exPr : ah := ⟨exTx, [⟨1, 50⟩, ⟨2, 0⟩], [⟨3, 60⟩], exPg⟩
theorem tz : fo exPr (cv exPr) = 0 := by decide +kernel
theorem xp_words : ne exPr 1 = 6 ∧ eo exPr 1 = 0 ∧ ne exPr 0 = 4 ∧ eo exPr 0 = 0 := ⟨by decide +kernel, by decide +kernel, by decide +kernel, by decide +kernel⟩
theorem xp_found : o5 exPr 0 = [⟨0, 0, 0⟩, ⟨0, 0, 3⟩] ∧ qz exPr 0 = [⟨0, 0, 0⟩] := ⟨by decide +kernel, by decide +kernel⟩
theorem xp_guess : n1 exPr 0 = ⟨2, 2⟩ ∧ m4 exPr 0 = 0 := ⟨by decide +kernel, by decide +kernel⟩
theorem xp_remain : pi exPr 1 = ⟨0, 1⟩ ∧ fo exPr (eo exPr 1) = 0 ∧ pi exPr 0 = ⟨0, 1⟩ ∧ fo exPr (eo exPr 0) = 0 := ⟨by decide +kernel, by decide +kernel, by decide +kernel, by decide +kernel⟩
theorem ufq : oo exPr = ⟨0, 1⟩ := by decide +kernel
theorem xp_why : jk exPr (ep exPr) = [0] ∧ jd exPr (ep exPr) = [] := ⟨by decide +kernel, by decide +kernel⟩
theorem xp_bound : mh exPr false 0 = 4 ∧ jz exPr false 0 = 0 ∧ mh exPr false 1 = 0 ∧ jz exPr false 1 = 0 ∧ mh exPr true 0 = 5 ∧ jz exPr true 0 = 0 := ⟨by decide +kernel, by decide +kernel, by decide +kernel, by decide +kernel, by decide +kernel, by decide +kernel⟩
theorem xp_chief : j8 exPr 0 = [0, 1] ∧ jb exPr 0 = 0 ∧ j8 exPr 1 = [] ∧ jb exPr 1 = 0 := ⟨by decide +kernel, by decide +kernel, by decide +kernel, by decide +kernel⟩
theorem ufp : pa exPr = [1, 0] := by
 have h0 : jq exPr 0 = 1 := by
  have := Net.pick_alone (N := bu exPr) (R := c4 exPr) (C := di exPr) (j := 0) (by decide +kernel) (by decide +kernel)
  exact this.trans (by decide +kernel)
 have h1 : jq exPr 1 = 0 := by
  have e : jq exPr 1 = (bu exPr).pick ((bu exPr).lessR (c4 exPr) 0 1) (er (di exPr) 0) 1 := by
   show (bu exPr).pick ((bu exPr).lessR (c4 exPr) 0 (jq exPr 0)) (er (di exPr) 0) 1 = _
   rw [h0]
  have := Net.pick_alone (N := bu exPr) (R := (bu exPr).lessR (c4 exPr) 0 1) (C := er (di exPr) 0) (j := 1) (by decide +kernel) (by decide +kernel)
  exact e.trans (this.trans (by decide +kernel))
 unfold pa
 rw [tz]
 show [jq exPr 0, jq exPr 1] = _
 rw [h0, h1]
end Go.AB
namespace Go.AB
open Go Go.RowKit
open Go.AB.Enc (cells)
open Go.PB (ba ai PlaceD bh bj bi bw aw ah cw br)
/-- who is found by one reader alone, so far -/
def gm (F W : List PlaceD) (q : PlaceD) : Bool := decide (q ∈ F) != decide (q ∈ W)
theorem ujm (F : List PlaceD) (q : PlaceD) : gm F [] q = decide (q ∈ F) := by simp [gm]
theorem xc {l : List PlaceD} (h : l.Pairwise fun a b => fh (c9 a) (c9 b) < 0) : l.Nodup := h.imp fun {a b} hab e => by
 rw [m7 (by rfl)] at hab
 subst e
 exact oy _ hab
theorem ugw {l : List PlaceD} (h : l.Nodup) {k : Nat} {q : PlaceD} (hq : l[k]? = some q) : q ∉ l.take k := fun hm => by
 obtain ⟨i, hi⟩ := List.getElem?_of_mem hm
 have hik : i < k := by have := (List.getElem?_eq_some_iff.1 hi).1; rw [List.length_take] at this; omega
 rw [List.getElem?_take_of_lt hik] at hi
 obtain ⟨h1, h2⟩ := List.getElem?_eq_some_iff.1 hi
 obtain ⟨h3, h4⟩ := List.getElem?_eq_some_iff.1 hq
 have := (List.pairwise_iff_getElem.1 h) i k h1 h3 hik
 exact this (h2.trans h4.symm)
/-- the place at hand is in the map if the first reader found it -/
theorem uu {F W : List PlaceD} (hW : W.Nodup) {k : Nat} {q : PlaceD} (hq : W[k]? = some q) : gm F (W.take k) q = decide (q ∈ F) := by
 unfold gm
 rw [decide_eq_false (ugw hW hq)]
 cases decide (q ∈ F) <;> rfl
theorem ub4 {F W : List PlaceD} (hW : W.Nodup) {k : Nat} {q : PlaceD} (hq : W[k]? = some q) (x : PlaceD) : gm F (W.take (k + 1)) x = bif decide (x = q) then !decide (q ∈ F) else gm F (W.take k) x := by
 have hm : decide (x ∈ W.take (k + 1)) = (decide (x ∈ W.take k) || decide (x = q)) := by
  rw [List.take_add_one, hq, Option.toList_some, Bool.eq_iff_iff]
  simp
 by_cases e : x = q
 ·subst e
  unfold gm
  rw [hm, decide_eq_true (rfl : x = x), Bool.or_true, cond_true]
  cases decide (x ∈ F) <;> rfl
 ·unfold gm
  rw [hm, decide_eq_false e, Bool.or_false, cond_false]
/-- what both found so far -/
def mi (F W : List PlaceD) (k : Nat) : List PlaceD := (W.take k).filter fun q => decide (q ∈ F)
theorem uet {F W : List PlaceD} {k : Nat} {q : PlaceD} (hq : W[k]? = some q) : mi F W (k + 1) = mi F W k ++ bif decide (q ∈ F) then [q] else [] := by
 unfold mi
 rw [List.take_add_one, hq, Option.toList_some, List.filter_append]
 cases h : decide (q ∈ F) <;> simp [h]
theorem ueu (F W : List PlaceD) (k : Nat) : (mi F W k).length ≤ W.length := by
 unfold mi
 have := List.length_filter_le (fun q => decide (q ∈ F)) (W.take k)
 rw [List.length_take] at this
 omega
theorem umx {p : ah} {last : Int} {x : aw} (h : ly p last x) : mi x.found x.well x.well.length = dj p.text x := by
 have hs : (mi x.found x.well x.well.length).Pairwise fun a b => fh (c9 a) (c9 b) < 0 := by
  unfold mi
  rw [List.take_length]
  exact (vv h.well).filter _
 refine uf hs (vw _) fun q => ?_
 unfold mi
 rw [List.take_length, List.mem_filter, decide_eq_true_eq]
 show _ ↔ q ∈ (gw p.text).filter _
 rw [List.mem_filter, Bool.and_eq_true, decide_eq_true_eq, decide_eq_true_eq, allQ_mem]
 exact ⟨fun ⟨h1, h2⟩ => ⟨(ma h.well h1).1, h2, h1⟩, fun ⟨_, h2, h3⟩ => ⟨h3, h2⟩⟩
/-- both's places, and those of one alone in any order, put in order: all that are found -/
theorem ufc {p : ah} {last : Int} {x : aw} (h : ly p last x) {ks s : List PlaceD} (hn : ks.Nodup) (hk : ∀ q, q ∈ ks ↔ gm x.found x.well q = true) (hp : s.Perm (dj p.text x ++ ks)) (hs : s.Pairwise fun a b => ¬ fh (c9 b) (c9 a) < 0) : s = cr p.text x := by
 have hmb : ∀ q, q ∈ dj p.text x ↔ q ∈ x.found ∧ q ∈ x.well := fun q => by
  show q ∈ (gw p.text).filter _ ↔ _
  rw [List.mem_filter, Bool.and_eq_true, decide_eq_true_eq, decide_eq_true_eq, allQ_mem]
  exact ⟨fun h => h.2, fun h2 => ⟨(ma h.well h2.2).1, h2⟩⟩
 have hko : ∀ q, gm x.found x.well q = true ↔ (q ∈ x.found ∧ q ∉ x.well) ∨ (q ∉ x.found ∧ q ∈ x.well) := fun q => by
  unfold gm
  by_cases h1 : q ∈ x.found <;> by_cases h2 : q ∈ x.well <;> simp [h1, h2]
 have hnd : (dj p.text x ++ ks).Nodup := by
  rw [List.nodup_append]
  refine ⟨xc (vw _), hn, fun a ha b hb e => ?_⟩
  subst e
  have h1 := (hmb a).1 ha
  rcases (hko a).1 ((hk a).1 hb) with h2 | h2
  ·exact h2.2 h1.2
  ·exact h2.1 h1.1
 have hsn : s.Nodup := hp.nodup_iff.2 hnd
 have hs2 : s.Pairwise fun a b => fh (c9 a) (c9 b) < 0 := by
  have := List.Pairwise.and hs hsn
  refine this.imp fun {a b} hab => ?_
  rw [m7 (by rfl)] at hab ⊢
  refine Classical.byContradiction fun hno => hab.2 ?_
  exact ula (ye (by rfl) hno hab.1)
 refine uf hs2 (vw _) fun q => ?_
 rw [hp.mem_iff, List.mem_append, hmb, hk, hko]
 show _ ↔ q ∈ (gw p.text).filter _
 rw [List.mem_filter, Bool.or_eq_true, decide_eq_true_eq, decide_eq_true_eq, allQ_mem]
 constructor
 ·rintro (⟨h1, h2⟩ | ⟨h1, _⟩ | ⟨_, h2⟩)
  ·exact ⟨(ma h.found h1).1, .inl h1⟩
  ·exact ⟨(ma h.found h1).1, .inl h1⟩
  ·exact ⟨(ma h.well h2).1, .inr h2⟩
 ·rintro ⟨_, h1 | h1⟩
  ·by_cases h2 : q ∈ x.well
   ·exact .inl ⟨h1, h2⟩
   ·exact .inr (.inl ⟨h1, h2⟩)
  ·by_cases h2 : q ∈ x.found
   ·exact .inl ⟨h2, h1⟩
   ·exact .inr (.inr ⟨h2, h1⟩)
/-! ### The words of a page, line by line -/
def jr (t : ai) (x : aw) (l : List PlaceD) : Nat := (l.filter (ib t x)).length
theorem z7 (t : ai) (x : aw) {k n : Nat} {c : ba} {l : List ByteArray} (hn : c.lines[n]? = some l) : jr t x (iw t k c.lines (n + 1)) = jr t x (iw t k c.lines n) + bif inB ((f9 t k : Int) + (n : Int)) x.fr x.to then l.length else 0 := by
 have e : iw t k c.lines (n + 1) = iw t k c.lines n ++ (kj k n l).map (·.1) := by
  unfold iw
  rw [uem k hn, List.map_append, List.append_assoc]
 unfold jr
 rw [e, List.filter_append, List.length_append]
 congr 1
 have hall : ∀ q ∈ (kj k n l).map (·.1), ib t x q = inB ((f9 t k : Int) + (n : Int)) x.fr x.to := fun q hq => by
  obtain ⟨y, hy, rfl⟩ := List.mem_map.1 hq
  obtain ⟨w, hw, rfl⟩ := List.mem_mapIdx.1 hy
  show inB (pt t ⟨(k : Int), (n : Int), (w : Int)⟩) x.fr x.to = _
  unfold pt
  dsimp only
  rw [Int.toNat_natCast, Int.add_comm]
 have hlen : ((kj k n l).map (·.1)).length = l.length := by rw [List.length_map]; unfold kj; rw [List.length_mapIdx]
 cases hb : inB ((f9 t k : Int) + (n : Int)) x.fr x.to
 ·rw [List.filter_eq_nil_iff.2 fun q hq => by rw [hall q hq, hb]; simp]; rfl
 ·rw [List.filter_eq_self.2 fun q hq => by rw [hall q hq, hb], hlen]; rfl
theorem ufz (t : ai) (x : aw) : jr t x (gw t) = dm t x := rfl
end Go.AB
namespace Go.AB
open Go Go.RowKit
open Go.AB.Enc (cells)
open Go.PB (ba ai PlaceD bh bj bi bw aw ah cw br)
section
variable {N : Net} {R C : Nat → Int}
end
end Go.AB
namespace Go.PB
structure dg where
 readers : List Int
 pages : List Int
 read : List (List Int)
/-- the reference's: readers and pages alone -/
structure dl where
 readers : List Int
 pages : List Int
end Go.PB
namespace Go.AB
open Go Go.RowKit
open Go.AB.Enc (cells)
open Go.PB (ba ai PlaceD bh bj bi bw aw ah cw br dg dl)
instance : Enc dg := ⟨fun x => [lst x.readers, lst x.pages, lst x.read], 3, fun _ => rfl, fun m x c h => by
 simp only [List.mem_cons, List.not_mem_nil, or_false] at h
 rcases h with rfl | rfl | rfl
 ·exact ca m _
 ·exact ca m _
 ·exact ca m _, fun x c h => by
 simp only [List.mem_cons, List.not_mem_nil, or_false] at h; rcases h with rfl | rfl | rfl <;> rfl⟩
def gl (p : ah) (R C : Nat → Int) : dg := ⟨bn (bt p) R, bn p.pages.length C, p.pages.map (dt p)⟩
/-- numbers that no sum of takes too far -/
structure Bd (p : ah) (R C : Nat → Int) : Prop where
 r : ∀ i, -1000000 ≤ R i ∧ R i ≤ 1000000
 c : ∀ j, 0 ≤ C j ∧ C j ≤ 1000000
 nr : bt p ≤ 6
 np : p.pages.length ≤ 8
theorem tn {p : ah} (h : eg p) : Bd p (c4 p) (di p) := ⟨fun i => by have := uku h i; omega, fun j => by have := uep h j; omega, by have := h.nf; have := h.ns; unfold bt; omega, h.np⟩
/-- what some first readers of a set have -/
def fR (R : Nat → Int) (S : Nat → Bool) (i : Nat) : Int := sm i fun k => bif S k then R k else 0
def fC (p : ah) (C : Nat → Int) (S : Nat → Bool) (j : Nat) : Int := sm j fun k => bif (bu p).hit S k then 0 else C k
theorem udy (p : ah) (R C : Nat → Int) (S : Nat → Bool) : (bu p).f R C S = fR R S (bt p) + fC p C S p.pages.length := rfl
theorem ug {g : Nat → Int} {m : Int} (h : ∀ i, -m ≤ g i ∧ g i ≤ m) : ∀ n : Nat, -(n * m) ≤ sm n g ∧ sm n g ≤ n * m
 | 0 => by simp [sm]
 | n + 1 => by
  have h1 := ug h n
  have h2 := h n
  have e : ((n + 1 : Nat) : Int) * m = (n : Int) * m + m := by rw [Int.natCast_add, Int.add_mul]; simp
  simp only [sm]
  omega
theorem y4 {p : ah} {R C : Nat → Int} (h : Bd p R C) (S : Nat → Bool) (i : Nat) (hi : i ≤ bt p) : -6000000 ≤ fR R S i ∧ fR R S i ≤ 6000000 := by
 have := ug (g := fun k => bif S k then R k else 0) (m := 1000000) (fun k => by cases S k; simp; exact h.r k) i
 have := h.nr
 unfold fR
 omega
theorem ud3 {p : ah} {R C : Nat → Int} (h : Bd p R C) (S : Nat → Bool) (j : Nat) (hj : j ≤ p.pages.length) : 0 ≤ fC p C S j ∧ fC p C S j ≤ 8000000 := by
 have h1 := ug (g := fun k => bif (bu p).hit S k then 0 else C k) (m := 1000000) (fun k => by have := h.c k; cases (bu p).hit S k; simp; omega; simp) j
 have h2 := uhc (n := j) (g := fun k => bif (bu p).hit S k then 0 else C k) fun k _ => by have := h.c k; cases (bu p).hit S k; exact this.1; exact Int.le_refl _
 have := h.np
 unfold fC
 omega
theorem f_bd {p : ah} {R C : Nat → Int} (h : Bd p R C) (S : Nat → Bool) : -6000000 ≤ (bu p).f R C S ∧ (bu p).f R C S ≤ 14000000 := by
 have h1 := y4 h S _ (Nat.le_refl _)
 have h2 := ud3 h S _ (Nat.le_refl _)
 rw [udy]
 omega
theorem ucm {g : Nat → Int} {a b : Int} (h : ∀ s, a ≤ g s ∧ g s ≤ b) (k : Nat) : a ≤ lv g k ∧ lv g k ≤ b := by
 obtain ⟨s, _, e⟩ := u6 (g := g) k
 rw [e]
 exact h s
theorem uci {p : ah} {R C : Nat → Int} (h : Bd p R C) : -6000000 ≤ (bu p).most R C ∧ (bu p).most R C ≤ 14000000 := ucm (fun s => f_bd h _) _
end Go.AB
namespace Go.AB
open Go Go.RowKit
open Go.AB.Enc (cells)
section
variable {P : Program} {o : Oper} {st : St} {K : St → Prop}
end
end Go.AB
namespace Go.AB
open Go Go.RowKit Go.Shelf Go.Proofs
open Go.AB.Enc (cells)
section
variable {P : Program} {o : Oper} {st : St} {K : St → Prop}
theorem uje {E : Env} {w : World} {v : Value} {n ver len : Nat} (hp : R E w (.own n ver len) v) : ∃ a cap, v = .slice a len cap ∧ n < E.nx ∧ len ≤ cap ∧ cap ≤ maxLen ∧ ∀ ver' wv val, E.T n = some (ver', wv, val) → ver ≤ ver' ∧ (ver = ver' → ∃ m, len ≤ m ∧ val = .slice a m cap) := by
 cases hp with
 | own h1 h2 h3 h4 => exact ⟨_, _, rfl, h1, h2, h3, h4⟩
/-- append of nothing onto an own slice. -/
theorem uj4 {t e : TypeId} {sz bytes n ver m : Nat} [AppT P t e sz bytes] {s x : Operand} {tk : Tok} (ho : o.op = .call { callee := .builtin .append, args := #[s, x], argTypes := #[t, t] }) (hs : evC st s = .own n ver m) (hx : evC st x = .list [] tk) : NStep P o st (.own n ver m) := fun E w a hsim => by
 obtain ⟨ht, i, z, hie, hz, h1, h2, h3⟩ := AppT.spec (P := P) (t := t) (e := e) (sz := sz) (bytes := bytes)
 have hown := hs ▸ hsim.ev s
 obtain ⟨ad, cap, e1, q1, q2, q3, q4⟩ := uje hown
 obtain ⟨ao, c, _, _, e3, _⟩ := (hx ▸ hsim.ev x).list_inv
 refine ⟨a.eval s, hown, fun w' => ?_⟩
 have hrun := ry (P := P) w' t o.type e i ht hie ad ao m cap c q2
 simp only [execOp, ho, resolve, invoke, builtin, Sem.run_bind, Sem.run_pure, Result.andThen_ok, List.map_toArray, List.map_cons, List.map_nil, e1, e3]
 rw [List.length_nil] at *
 rw [hrun]; rfl
/-- append of data onto an own slice. -/
theorem qw {α : Type} [Enc α] {t e : TypeId} {bytes n ver wv : Nat} [AppT P t e (Enc.n α) bytes] {s x : Operand} {tk : Tok} {rows : List (List C)} {xs : List α} {m : Nat} {cs : List C} (ys : List α) (ho : o.op = .call { callee := .builtin .append, args := #[s, x], argTypes := #[t, t] }) (hs : evC st s = .own n ver m) (hG : st.G n = some (.arr ver wv e (Enc.n α) m cs)) (hc : cs = dq xs) (hm : m = xs.length) (hx : evC st x = .list rows tk) (hy : rows = ys.map cells) (hb : (xs.length + ys.length) * bytes ≤ 140737488355328) (hmax : xs.length + ys.length ≤ 9223372036854775807)
  (h : ∀ v : Nat, K (St.put { st with G := ak st.G n (.arr v wv e (Enc.n α) (xs ++ ys).length (dq (xs ++ ys))) } o.dst (.own n v (xs ++ ys).length))) : EStep P o st K := by
 subst hc; subst hm; subst hy
 by_cases h0 : ys = []
 ·subst h0
  have h1 := h ver
  simp only [List.append_nil] at h1
  have h2 : ak st.G n (.arr ver wv e (Enc.n α) xs.length (dq xs)) = st.G := by
   funext k
   simp only [ak]
   split
   ·rename_i e; rw [e, hG]
   ·rfl
  rw [h2] at h1
  exact SStep.e' (NStep.s (D := fun _ => True) (uj4 ho hs hx)) h1
 ·refine umc ho hs hG hx (l7 ys) (by simpa using hb) (by simpa using hmax) (by simpa using h0) ?_
  have h1 := h (ver + 1)
  rw [udt] at h1
  simpa [dq] using h1
end
end Go.AB
namespace Go.AB
open Go Go.RowKit
open Go.AB.Enc (cells)
open Go.PB (ba ai PlaceD bh bj bi bw aw ah cw br dg dl)
/-- the first of some numbers that is not nought -/
def orN (xs : List Int) : Int := (xs.find? fun x => !decide (x = 0)).getD 0
theorem ujg {xs : List Int} {k : Nat} {x : Int} (hx : xs[k]? = some x) (hne : x ≠ 0) (h : ∀ y ∈ xs.take k, y = 0) : orN xs = x := by
 unfold orN
 rw [List.find?_eq_some_iff_append.2 ⟨by simpa using hne, xs.take k, xs.drop (k + 1), ?_, fun y hy => by simp [h y hy]⟩]
 ·rfl
 obtain ⟨h1, h2⟩ := List.getElem?_eq_some_iff.1 hx
 rw [← h2, ← List.drop_eq_getElem_cons h1, List.take_append_drop]
theorem uji {xs : List Int} (h : ∀ y ∈ xs, y = 0) : orN xs = 0 := by
 unfold orN
 rw [List.find?_eq_none.2 fun y hy => by simp [h y hy]]
 rfl
theorem uka {α : Type} {l : List α} {k : Nat} {x : α} {p : α → Prop} (hx : l[k]? = some x) (hp : p x) (h : ∀ y ∈ l.take k, p y) : ∀ y ∈ l.take (k + 1), p y := fun y hy => by
 rw [List.take_add_one, hx] at hy
 simp only [Option.toList_some, List.mem_append, List.mem_singleton] at hy
 rcases hy with hy | rfl
 ·exact h y hy
 exact hp
def lm (a b : PlaceD) : Int := fh (c9 a) (c9 b)
theorem ujh (a b : PlaceD) : orN [io a.ch b.ch, io a.ln b.ln, io a.wd b.wd] = lm a b := by
 unfold orN lm c9
 simp only [fh]
 by_cases h1 : io a.ch b.ch = 0
 ·by_cases h2 : io a.ln b.ln = 0
  ·by_cases h3 : io a.wd b.wd = 0 <;> simp [h1, h2, h3]
  simp [h1, h2]
 simp [h1]
/-- the order of lists, shorter ones first -/
def xf (a b : List Int) : Int := orN [(a.length : Int) - (b.length : Int), fh a b]
theorem ui (a b : List Int) : decide (xf a b < 0) = gu a b := by
 unfold xf orN gu
 by_cases h1 : (a.length : Int) - (b.length : Int) = 0
 ·have h2 : a.length = b.length := by omega
  have h3 : ¬ a.length < b.length := by omega
  by_cases h4 : fh a b = 0
  ·simp [h2, h4]
  simp [h2, h4]
 have h2 : ¬ a.length = b.length := by omega
 by_cases h3 : a.length < b.length
 ·have : (a.length : Int) - (b.length : Int) < 0 := by omega
  simp [h1, h2, h3, this]
 have : ¬ (a.length : Int) - (b.length : Int) < 0 := by omega
 simp [h1, h2, h3, this]
def l4 (t : ai) (k : Nat) : List Int := (List.range k).map fun i => (f9 t i : Int)
theorem uam (t : ai) (k : Nat) : (l4 t k).length = k := by simp [l4]
theorem uan {t : ai} {k i : Nat} (h : i < k) : (l4 t k)[i]? = some (f9 t i : Int) := by simp [l4, h]
theorem ug9 (t : ai) (k : Nat) : l4 t (k + 1) = l4 t k ++ [(f9 t k : Int)] := by
 unfold l4
 rw [List.range_succ, List.map_append]; rfl
theorem ud {t : ai} (ht : dz t = true) (k : Nat) (hk : k ≤ t.length) : f9 t k ≤ 60 := by
 obtain ⟨h1, h2, h3⟩ := lj ht
 have key : ∀ k, k ≤ t.length → f9 t k ≤ 10 * k := by
  intro k
  induction k with
  | zero => intro _; rw [uao]; exact Nat.zero_le _
  | succ k ih =>
   intro hk
   have hc : t[k]? = some t[k] := List.getElem?_eq_getElem (by omega)
   rw [rr hc]
   have := ih (by omega)
   have := (h3 _ (gd hc)).2.1
   omega
 have := key k hk
 omega
end Go.AB
namespace Go.Proofs.YtbbdginipiljdaaGreatDoor
set_option maxRecDepth 10000
open Go.RowKit Go.AB
open Go.AB.Enc (cells)
open Go.PB (ba ai PlaceD bh bj bi bw aw ah cw br dg dl)
theorem ubt (xs : List Int) : Pure Tryz.prog 92 [lst xs] (.v (.int .i64 (orN xs))) := by
 refine c6 Tryz.func92 rfl (fun m => .v) fun G nx => ?_
 simp only [Tryz.ntmps92, List.length_cons, List.length_nil, Nat.reduceAdd, Nat.reduceSub]
 refine cc fun hlt => ?_
 dsimp only at hlt
 refine lh 0 (fun hf => ?_)
 replace hf := (fit_lst.1 hf).1
 refine yS fun _ K1 => ?_
 refine yR ?_
 refine yA rfl rfl ?_
 refine yN ?_
 dsimp only [St.put]
 refine K1 _ ?_
 refine yS fun _ K2 => ?_
 refine yR ?_
 refine yA rfl rfl ?_
 refine yN ?_
 dsimp only [St.put]
 refine K2 _ ?_
 refine yS fun _ K3 => ?_
 refine yS fun _ K4 => ?_
 refine yR ?_
 refine yM rfl rfl ?_
 refine aa rfl (bp rfl rfl (List.length_map _)) ?_
 refine yM rfl rfl ?_
 refine yN ?_
 dsimp only [St.put]
 refine K4 _ ?_
 refine bg ?_
 refine ct 9 ?_
 refine zQ ?_
 refine dd (G) zX ?_
 dsimp only
 refine dc (X := Nat) (fun k => k ≤ xs.length ∧ ∀ y ∈ xs.take k, y = 0) (fun k => xs.length - k) (fun k => [(4, .any), (5, .any), (8, .v (.int .i64 (k : Int)))]) (fun k G' => G') 0 rfl ?_ ?_ (fun _ _ h => h) ?_ ?_ ?_
 ·exact ⟨by simp, by simp⟩
 ·exact zF
 ·rintro k hI
  exact zL
 ·exact fun _ _ _ _ h => .inl h
 rintro k hI
 dsimp only at hI ⊢
 refine yS fun _ K5 => ?_
 refine yR ?_
 refine aa rfl (cp rfl rfl rfl) ?_
 refine yN ?_
 dsimp only [St.put]
 refine K5 _ ?_
 refine yS fun _ K6 => ?_
 refine av rfl (fun hc => ?_) (fun hc => ?_)
 ·replace hc := of_decide_eq_true hc
  obtain ⟨x, hx⟩ : ∃ x, xs[k]? = some x := dp (by omega)
  refine ay ?_
  refine K6 _ ?_
  refine yS fun _ K7 => ?_
  refine bg ?_
  refine yS fun _ K8 => ?_
  refine yR ?_
  refine aa rfl (bx rfl rfl rfl rfl (bv (by assumption)) (Enc.len _)) ?_
  refine yL rfl rfl rfl ?_
  refine yA rfl rfl ?_
  refine yN ?_
  dsimp only [St.put]
  refine K8 _ ?_
  refine yS fun _ K9 => ?_
  refine yR ?_
  refine yM rfl rfl ?_
  refine yM rfl rfl ?_
  refine aa rfl (fl rfl rfl rfl) ?_
  refine yN ?_
  dsimp only [St.put]
  refine K9 _ ?_
  refine av rfl (fun hc => ?_) (fun hc => ?_)
  ·replace hc := jl hc
   refine yS fun _ K10 => ?_
   refine yR ?_
   refine yM rfl rfl ?_
   refine yA rfl rfl ?_
   refine yN ?_
   dsimp only [St.put]
   refine K10 _ ?_
   refine ax ?_
   refine bf rfl (by constructor) zN zS ?_
   exact vi (ujg hx hc hI.2).symm
  replace hc := ie hc
  refine ay ?_
  refine K7 _ ?_
  refine yR ?_
  refine aa rfl (bz rfl rfl rfl (by omega)) ?_
  refine yM rfl rfl ?_
  refine yN ?_
  dsimp only [St.put]
  exact ⟨k + 1, by omega, ⟨by omega, uka hx hc hI.2⟩, ⟨⟨rfl, rfl⟩, zF, zB, zN, zX⟩⟩
 try replace hc := of_decide_eq_false hc
 refine c7 ?_
 refine K3 _ ?_
 refine yS fun _ K11 => ?_
 refine yR ?_
 refine yM rfl rfl ?_
 refine yA rfl rfl ?_
 refine yN ?_
 dsimp only [St.put]
 refine K11 _ ?_
 refine ax ?_
 refine bf rfl (by constructor) zN zS ?_
 exact vi (by
  rw [uji]
  have := hI.2
  rwa [f8 (by omega)] at this)
theorem ui7 (n lo hi : Int) : Pure Tryz.prog 96 [.v (.int .i64 n), .elem [.v (.int .i64 lo)], .elem [.v (.int .i64 hi)]] (.v (.bool (l6 n lo hi))) := by
 refine c6 Tryz.func96 rfl (fun m => .v) fun G nx => ?_
 simp only [Tryz.ntmps96, List.length_cons, List.length_nil, Nat.reduceAdd, Nat.reduceSub]
 refine cc fun hlt => ?_
 dsimp only at hlt
 refine yS fun _ K1 => ?_
 refine yR ?_
 refine yA rfl rfl ?_
 refine yN ?_
 dsimp only [St.put]
 refine K1 _ ?_
 refine yS fun _ K2 => ?_
 refine yR ?_
 refine yM rfl rfl ?_
 refine yL rfl rfl rfl ?_
 refine aa rfl (cp rfl rfl rfl) ?_
 refine ff (fun hs => ?_) (fun hs => ?_)
 ·try replace hs := of_decide_eq_true hs
  refine yM rfl rfl ?_
  refine yK rfl ?_
  refine yK rfl ?_
  refine yK rfl ?_
  refine aa rfl (ci rfl rfl (by constructor)) ?_
  refine yA rfl rfl ?_
  refine yN ?_
  dsimp only [St.put]
  refine K2 _ ?_
  refine ax ?_
  refine bf rfl (by constructor) zN zS ?_
  exact vb (by simp [l6, hs]; try omega)
 try replace hs := of_decide_eq_false hs
 refine yM rfl rfl ?_
 refine yM rfl rfl ?_
 refine yL rfl rfl rfl ?_
 refine aa rfl (il rfl rfl rfl) ?_
 refine aa rfl (c5 rfl rfl (by constructor)) ?_
 refine yA rfl rfl ?_
 refine yN ?_
 dsimp only [St.put]
 refine K2 _ ?_
 refine ax ?_
 refine bf rfl (by constructor) zN zS ?_
 exact vb (by simp [l6, hs]; try omega)
theorem mu (lo hi : Int) (xs : List Int) : Pure Tryz.prog 76 [.v (.int .i64 lo), .v (.int .i64 hi), lst xs] (.v (.bool (vp lo hi xs))) := by
 refine c6 Tryz.func76 rfl (fun m => .v) fun G nx => ?_
 simp only [Tryz.ntmps76, List.length_cons, List.length_nil, Nat.reduceAdd, Nat.reduceSub]
 refine cc fun hlt => ?_
 dsimp only at hlt
 refine yS fun _ K1 => ?_
 refine yR ?_
 try dsimp only [St.put]
 refine yB rfl rfl rfl ?_
 try dsimp only [St.put]
 refine yB rfl rfl rfl ?_
 refine yA rfl rfl ?_
 refine yN ?_
 dsimp only [St.put]
 refine K1 _ ?_
 refine yS fun _ K2 => ?_
 refine yR ?_
 refine yM rfl rfl ?_
 refine aa rfl (po rfl rfl) ?_
 try dsimp only [St.put]
 refine af rfl (bc rfl rfl rfl (wj xs (fun n => l6 n lo hi) _ _ fun x _ => ui7 x lo hi) ?_)
 refine aa rfl (d7 rfl rfl) ?_
 refine yA rfl rfl ?_
 refine yN ?_
 dsimp only [St.put]
 refine K2 _ ?_
 refine ax ?_
 refine bf rfl (by constructor) zN zS ?_
 rfl
theorem xu (a b : PlaceD) : Pure Tryz.prog 84 [val a, val b] (.v (.int .i64 (lm a b))) := by
 refine c6 Tryz.func84 rfl (fun m => .v) fun G nx => ?_
 simp only [Tryz.ntmps84, List.length_cons, List.length_nil, Nat.reduceAdd, Nat.reduceSub]
 refine cc fun hlt => ?_
 dsimp only at hlt
 refine yS fun _ K1 => ?_
 refine yR ?_
 try dsimp only [St.put]
 refine yB rfl rfl rfl ?_
 try dsimp only [St.put]
 refine yB rfl rfl rfl ?_
 refine yA rfl rfl ?_
 refine yN ?_
 dsimp only [St.put]
 refine K1 _ ?_
 refine yS fun _ K2 => ?_
 refine g7 [(0, none), (1, none), (2, none), (3, none), (5, none), (6, none), (7, none), (8, none), (10, none), (11, none), (12, none), (13, none), (4, none), (9, none), (14, none), (15, none), (16, none), (17, none)] (fun i => [14, 15, 16].contains i) (fun i => [4, 9, 14, 15, 16].contains i) (fun i => [0, 2, 5, 7, 10, 12, 17].contains i) [] (by kernel_rfl) (by kernel_rfl) ?_
 refine ae rfl rfl rfl rfl (cx rfl rfl rfl) ?_
 try dsimp only [St.put]
 refine bd rfl rfl rfl rfl (cm rfl rfl) ?_
 refine ae rfl rfl rfl rfl (cx rfl rfl rfl) ?_
 try dsimp only [St.put]
 refine bd rfl rfl rfl rfl (cm rfl rfl) ?_
 refine ae rfl rfl rfl rfl (cx rfl rfl rfl) ?_
 try dsimp only [St.put]
 refine bd rfl rfl rfl rfl (cm rfl rfl) ?_
 refine ae rfl rfl rfl rfl (cx rfl rfl rfl) ?_
 try dsimp only [St.put]
 refine bd rfl rfl rfl rfl (cm rfl rfl) ?_
 refine ae rfl rfl rfl rfl (cx rfl rfl rfl) ?_
 try dsimp only [St.put]
 refine bd rfl rfl rfl rfl (cm rfl rfl) ?_
 refine ae rfl rfl rfl rfl (cx rfl rfl rfl) ?_
 try dsimp only [St.put]
 refine bd rfl rfl rfl rfl (cm rfl rfl) ?_
 refine jo ?_
 try dsimp only [St.put]
 refine ka rfl rfl rfl (bc rfl rfl rfl (vz _ _) ⟨zD, ?_⟩)
 try dsimp only [St.put]
 refine ka rfl rfl rfl (bc rfl rfl rfl (vz _ _) ⟨zD, ?_⟩)
 try dsimp only [St.put]
 refine g8 rfl rfl rfl rfl (bc rfl rfl rfl (vz _ _) ?_)
 try dsimp only [St.put]
 refine g8 rfl rfl rfl rfl (b9 rfl rfl rfl (by decide) (by decide) zR (by decide) ?_)
 try dsimp only [St.put]
 refine g8 rfl rfl rfl rfl (bc rfl rfl rfl (ubt [io a.ch b.ch, io a.ln b.ln, io a.wd b.wd]) ?_)
 refine c8 rfl rfl rfl rfl (fp rfl (by constructor)) ?_
 refine ji ?_
 dsimp only [St.put]
 refine K2 _ ?_
 refine ax ?_
 refine bf rfl (by constructor) zN zS ?_
 exact vi (ujh a b)
theorem ui2 (a b : List Int) (ha : a.length ≤ 1000) (hb : b.length ≤ 1000) : Pure Tryz.prog 57 [lst a, lst b] (.v (.int .i64 (xf a b))) := by
 refine c6 Tryz.func57 rfl (fun m => .v) fun G nx => ?_
 simp only [Tryz.ntmps57, List.length_cons, List.length_nil, Nat.reduceAdd, Nat.reduceSub]
 refine cc fun hlt => ?_
 dsimp only at hlt
 refine yS fun _ K1 => ?_
 refine yR ?_
 refine yA rfl rfl ?_
 refine yN ?_
 dsimp only [St.put]
 refine K1 _ ?_
 refine yS fun _ K2 => ?_
 refine yR ?_
 refine yM rfl rfl ?_
 refine aa rfl (bp rfl rfl (List.length_map _)) ?_
 refine yM rfl rfl ?_
 refine aa rfl (bp rfl rfl (List.length_map _)) ?_
 refine aa rfl (gt rfl rfl rfl (by omega)) ?_
 refine yM rfl rfl ?_
 refine yM rfl rfl ?_
 try dsimp only [St.put]
 refine af rfl (bc rfl rfl rfl (umh a b ha hb) ?_)
 try dsimp only [St.put]
 refine af rfl (b9 rfl rfl rfl (by decide) (by decide) zR (by decide) ?_)
 try dsimp only [St.put]
 refine af rfl (bc rfl rfl rfl (ubt [(a.length : Int) - (b.length : Int), fh a b]) ?_)
 refine yA rfl rfl ?_
 refine yN ?_
 dsimp only [St.put]
 refine K2 _ ?_
 refine ax ?_
 refine bf rfl (by constructor) zN zS ?_
 rfl
theorem ui1 (t : ai) (q : PlaceD) (ht : dz t = true) : Pure Tryz.prog 83 [i9 t, val q] (.v (.bool (fw t q))) := by
 refine c6 Tryz.func83 rfl (fun m => .v) fun G nx => ?_
 simp only [Tryz.ntmps83, List.length_cons, List.length_nil, Nat.reduceAdd, Nat.reduceSub]
 refine cc fun hlt => ?_
 dsimp only at hlt
 obtain ⟨hl1, hl2, hl3⟩ := lj ht
 refine yS fun _ K1 => ?_
 refine yR ?_
 try dsimp only [St.put]
 refine yB rfl rfl rfl ?_
 try dsimp only [St.put]
 refine yB rfl rfl rfl ?_
 refine yA rfl rfl ?_
 refine yN ?_
 dsimp only [St.put]
 refine K1 _ ?_
 refine yS fun _ K2 => ?_
 refine ct 5 ?_
 refine zQ ?_
 refine kr (X := Bool) (fun b => b = !(g9 t (q.ch, q.ln)).isSome) (fun b => [(29, .v (.bool b))]) (fun b G' => G') rfl ?_ (fun _ _ _ _ h => .inl h) ?_ ?_
 ·rintro b hI
  exact zL
 ·refine rb [(0, none), (1, none), (2, none), (3, none), (4, none), (5, none)] (fun _ => false) (fun i => [0, 2, 3, 4].contains i) 19 (rl [6, 19]) (by kernel_rfl) (by kernel_rfl) ?_
  refine ae rfl rfl rfl rfl (cx rfl rfl rfl) ?_
  try dsimp only [St.put]
  refine bd rfl rfl rfl rfl (cm rfl rfl) ?_
  refine ae rfl rfl rfl rfl (bp rfl rfl (List.length_map _)) ?_
  refine ae rfl rfl rfl rfl (gt rfl rfl rfl (by omega)) ?_
  refine ae rfl rfl rfl rfl (cx rfl rfl rfl) ?_
  try dsimp only [St.put]
  refine bd rfl rfl rfl rfl (cm rfl rfl) ?_
  refine az ?_
  refine eb [6] (by kernel_rfl) (by simp) ?_
  refine d9 ?_ ?_
  ·try dsimp only [St.put]
   refine i0 rfl rfl rfl (b9 rfl rfl rfl (by decide) (by decide) zR (by decide) ?_)
   refine eb [7] (by kernel_rfl) (by simp) ?_
   refine d9 ?_ ?_
   ·try dsimp only [St.put]
    refine i0 rfl rfl rfl (bc rfl rfl rfl (mu _ _ [_]) ?_)
    refine et [(8, none), (9, none), (10, none), (11, none), (12, none), (13, none), (14, none), (15, none), (16, none), (17, none), (18, none), (19, none), (20, none)] (fun i => [8, 9, 10, 12, 14, 15, 17, 18, 19].contains i) 4 (rl [21, 4]) (by kernel_rfl) ?_
    refine ae rfl rfl rfl rfl (d7 rfl rfl) ?_
    refine xM rfl rfl rfl rfl rfl ?_
    refine jy (fun hs => ?_) (fun hs => ?_)
    ·have h8 : inB q.ch 0 ((t.length : Int) - 1) = false := by rw [gn] at hs; simpa using hs
     refine aj rfl rfl rfl ?_
     refine aj rfl rfl rfl ?_
     refine aj rfl rfl rfl ?_
     refine aj rfl rfl rfl ?_
     refine aj rfl rfl rfl ?_
     refine aj rfl rfl rfl ?_
     refine aj rfl rfl rfl ?_
     refine aj rfl rfl rfl ?_
     refine aj rfl rfl rfl ?_
     refine aj rfl rfl rfl ?_
     refine aj rfl rfl rfl ?_
     refine az ?_
     refine eb [21] (by kernel_rfl) (by simp) ?_
     refine d9 ?_ ?_
     ·refine gi rfl rfl rfl ?_
      refine eb [22] (by kernel_rfl) (by simp) ?_
      refine d9 ?_ ?_
      ·refine gi rfl rfl rfl ?_
       refine et [(23, none), (24, none)] (fun i => [23, 24].contains i) 0 (rl [25]) (by kernel_rfl) ?_
       refine aj rfl rfl rfl ?_
       refine ae rfl rfl rfl rfl (ci rfl rfl (by constructor)) ?_
       refine az ?_
       dsimp only [St.put]
       refine ix (by kernel_rfl) ?_
       refine ⟨_, ?_, ⟨⟨rfl, rfl⟩, zF, zB, zN, zX⟩⟩
       rw [ua]
       (simp [h8]; done)
      exact d8
     exact d8
    have h8 : inB q.ch 0 ((t.length : Int) - 1) = true := by rw [gn] at hs; simpa using hs
    have hn1' := h8
    simp only [inB_true] at hn1'
    obtain ⟨c, hcx⟩ : ∃ c, t[q.ch.toNat]? = some c := dp (by omega)
    have hnl : k6 t q.ch = c.lines.length := by simp [k6, hcx]
    have hll := (hl3 c (gd hcx)).2.1
    have hch : q.ch = ((q.ch.toNat : Nat) : Int) := by omega
    refine ae rfl rfl rfl rfl (cx rfl rfl rfl) ?_
    try dsimp only [St.put]
    refine bd rfl rfl rfl rfl (cm rfl rfl) ?_
    refine ae rfl rfl rfl rfl (cx rfl rfl rfl) ?_
    try dsimp only [St.put]
    refine bd rfl rfl rfl rfl (cm rfl rfl) ?_
    try dsimp only [St.put]
    refine ae rfl rfl rfl rfl (bx rfl rfl rfl (by omega) (bv (by assumption)) (Enc.len _)) ?_
    refine ae rfl rfl rfl rfl (cx rfl rfl rfl) ?_
    try dsimp only [St.put]
    refine bd rfl rfl rfl rfl (cm rfl rfl) ?_
    refine ae rfl rfl rfl rfl (bp rfl rfl (List.length_map _)) ?_
    refine ae rfl rfl rfl rfl (gt rfl rfl rfl (by omega)) ?_
    refine ae rfl rfl rfl rfl (cx rfl rfl rfl) ?_
    try dsimp only [St.put]
    refine bd rfl rfl rfl rfl (cm rfl rfl) ?_
    refine az ?_
    refine eb [21] (by kernel_rfl) (by simp) ?_
    refine d9 ?_ ?_
    ·try dsimp only [St.put]
     refine i0 rfl rfl rfl (b9 rfl rfl rfl (by decide) (by decide) zR (by decide) ?_)
     refine eb [22] (by kernel_rfl) (by simp) ?_
     refine d9 ?_ ?_
     ·try dsimp only [St.put]
      refine i0 rfl rfl rfl (bc rfl rfl rfl (mu _ _ [_]) ?_)
      refine et [(23, none), (24, none)] (fun i => [23, 24].contains i) 0 (rl [25]) (by kernel_rfl) ?_
      refine ae rfl rfl rfl rfl (d7 rfl rfl) ?_
      refine ae rfl rfl rfl rfl (c5 rfl rfl (by constructor)) ?_
      refine az ?_
      dsimp only [St.put]
      refine ix (by kernel_rfl) ?_
      refine ⟨_, ?_, ⟨⟨rfl, rfl⟩, zF, zB, zN, zX⟩⟩
      rw [ua]
      (simp [h8, hnl, gn]; done)
     exact d8
    exact d8
   exact d8
  exact d8
 rintro b hst
 dsimp only at hst ⊢
 refine av rfl (fun hc => ?_) (fun hc => ?_)
 ·have hw : g9 t (q.ch, q.ln) = none := by rw [hc] at hst; simpa using hst.symm
  refine yS fun _ K4 => ?_
  refine yR ?_
  refine yA rfl rfl ?_
  refine yN ?_
  dsimp only [St.put]
  refine K4 _ ?_
  refine ax ?_
  refine bf rfl (by constructor) zN zS ?_
  exact vb (by unfold fw; rw [hw])
 have hw0 : (g9 t (q.ch, q.ln)).isSome = true := by rw [hc] at hst; simpa using hst.symm
 obtain ⟨l, hw⟩ := Option.isSome_iff_exists.1 hw0
 obtain ⟨k, n, c, hkn, hk, hn⟩ := rn hw
 have hch : q.ch = ((k : Nat) : Int) := congrArg Prod.fst hkn
 have hln : q.ln = ((n : Nat) : Int) := congrArg Prod.snd hkn
 have hwl := t8 ht hw
 refine ay ?_
 refine K2 _ ?_
 refine yS fun _ K5 => ?_
 refine g7 [(0, none), (1, none), (2, none), (3, none), (4, none), (5, none), (6, none), (7, none), (8, none), (9, none), (10, none), (11, none), (12, none), (13, none), (14, none), (15, none), (16, none), (17, none)] (fun i => [16].contains i) (fun i => [15, 16].contains i) (fun i => [0, 2, 4, 5, 7, 9, 11, 12, 13, 17].contains i) [] (by kernel_rfl) (by kernel_rfl) ?_
 refine ae rfl rfl rfl rfl (cx rfl rfl rfl) ?_
 try dsimp only [St.put]
 refine bd rfl rfl rfl rfl (cm rfl rfl) ?_
 refine ae rfl rfl rfl rfl (cx rfl rfl rfl) ?_
 try dsimp only [St.put]
 refine bd rfl rfl rfl rfl (cm rfl rfl) ?_
 try dsimp only [St.put]
 refine ae rfl rfl rfl rfl (bx rfl rfl rfl (by omega) (bv (by assumption)) (Enc.len _)) ?_
 refine ae rfl rfl rfl rfl (cx rfl rfl rfl) ?_
 try dsimp only [St.put]
 refine bd rfl rfl rfl rfl (cm rfl rfl) ?_
 refine ae rfl rfl rfl rfl (cx rfl rfl rfl) ?_
 try dsimp only [St.put]
 refine bd rfl rfl rfl rfl (cm rfl rfl) ?_
 try dsimp only [St.put]
 refine ae rfl rfl rfl rfl (bx rfl rfl rfl (by omega) (bv (by assumption)) (Enc.len _)) ?_
 try dsimp only [St.put]
 refine bd rfl rfl rfl rfl (cm rfl rfl) ?_
 refine ae rfl rfl rfl rfl (bp rfl rfl (List.length_map _)) ?_
 refine ae rfl rfl rfl rfl (gt rfl rfl rfl (by omega)) ?_
 refine ae rfl rfl rfl rfl (cx rfl rfl rfl) ?_
 try dsimp only [St.put]
 refine bd rfl rfl rfl rfl (cm rfl rfl) ?_
 refine jo ?_
 try dsimp only [St.put]
 refine ka rfl rfl rfl (b9 rfl rfl rfl (by decide) (by decide) zR (by decide) ⟨zD, ?_⟩)
 try dsimp only [St.put]
 refine g8 rfl rfl rfl rfl (bc rfl rfl rfl (mu _ _ [_]) ?_)
 refine c8 rfl rfl rfl rfl (fp rfl (by constructor)) ?_
 refine ji ?_
 dsimp only [St.put]
 refine K5 _ ?_
 refine ax ?_
 refine bf rfl (by constructor) zN zS ?_
 exact vb (by unfold fw; rw [hw, gn])
theorem ui6 (t : ai) (ht : dz t = true) : Pure Tryz.prog 82 [i9 t] (.tup [lst (l4 t t.length), .v (.int .i64 (l8 t : Int))]) := by
 refine c6 Tryz.func82 rfl (fun m => .tup (co (ca _ _) (co .v dn))) fun G nx => ?_
 simp only [Tryz.ntmps82, List.length_cons, List.length_nil, Nat.reduceAdd, Nat.reduceSub]
 refine cc fun hlt => ?_
 dsimp only at hlt
 obtain ⟨hl1, hl2, hl3⟩ := lj ht
 refine yS fun _ K1 => ?_
 refine yR ?_
 try dsimp only [St.put]
 refine yB rfl rfl rfl ?_
 refine yA rfl rfl ?_
 refine yA rfl rfl ?_
 refine yN ?_
 dsimp only [St.put]
 refine K1 _ ?_
 refine yS fun _ K2 => ?_
 refine yR ?_
 refine yA rfl rfl ?_
 refine yN ?_
 dsimp only [St.put]
 refine K2 _ ?_
 refine m9 4 3 1 rfl (by decide) ?_
 dsimp only [List.set_cons_zero, List.set_cons_succ]
 refine yS fun _ K3 => ?_
 refine yR ?_
 refine yA rfl rfl ?_
 refine yN ?_
 dsimp only [St.put]
 refine K3 _ ?_
 refine yS fun _ K4 => ?_
 refine yS fun _ K5 => ?_
 refine yR ?_
 refine yF rfl rfl rfl rfl ?_
 refine yL rfl rfl rfl ?_
 refine aa rfl (bp rfl rfl (List.length_map _)) ?_
 refine yM rfl rfl ?_
 refine yN ?_
 dsimp only [St.put]
 refine K5 _ ?_
 refine bg ?_
 refine ct 12 ?_
 refine zQ ?_
 refine dd (ak G nx (.tip 0 3 1)) zX ?_
 dsimp only
 refine dc (X := Nat) (fun k => k ≤ t.length) (fun k => t.length - k) (fun k => [(4, .list ((l4 t k).map cells) (.tip nx)), (5, .v (.int .i64 (f9 t k : Int))), (7, .any), (11, .v (.int .i64 (k : Int)))]) (fun k G' => ak G nx (.tip (l4 t k).length 3 1)) 0 rfl ?_ ?_ ?_ ?_ ?_ ?_
 ·exact Nat.zero_le _
 ·exact zF
 ·exact zX
 ·rintro k hI
  exact zL
 ·rintro k hI
  exact zH
 rintro k hI
 dsimp only at hI ⊢
 refine yS fun _ K6 => ?_
 refine yR ?_
 refine aa rfl (cp rfl rfl rfl) ?_
 refine yN ?_
 dsimp only [St.put]
 refine K6 _ ?_
 refine yS fun _ K7 => ?_
 refine av rfl (fun hc => ?_) (fun hc => ?_)
 ·replace hc := of_decide_eq_true hc
  obtain ⟨c, hcx⟩ : ∃ c, t[k]? = some c := dp (by omega)
  have hll := (hl3 c (gd hcx)).2.1
  have hsl := ud ht k (by omega)
  have hst : ((f9 t (k + 1) : Nat) : Int) = (f9 t k : Int) + (c.lines.length : Int) := by rw [rr hcx]; omega
  have hln := uam t k
  refine ay ?_
  refine K7 _ ?_
  refine yS fun _ K8 => ?_
  refine bg ?_
  refine yS fun _ K9 => ?_
  refine yR ?_
  refine aa rfl (bx rfl rfl rfl rfl (bv (by assumption)) (Enc.len _)) ?_
  refine yE rfl rfl rfl ?_
  try dsimp only [St.put]
  refine af rfl (dx rfl ?_)
  try dsimp only [St.put]
  refine af rfl (dh rfl rfl rfl zG rfl rfl (by rfl) ?_)
  refine yN ?_
  dsimp only [St.put]
  refine K9 _ ?_
  refine gh (i := 7) rfl zG zC ?_
  dsimp only
  refine yS fun _ K10 => ?_
  refine yR ?_
  refine yM rfl rfl ?_
  refine yM rfl rfl ?_
  try dsimp only [St.put]
  refine af rfl (b9 rfl rfl rfl (by decide) (by decide) zR (by decide) ?_)
  try dsimp only [St.put]
  refine af rfl (cg ([(f9 t k : Int)]) rfl rfl zG zE rfl rfl zA ?_ zA)
  refine yA rfl rfl ?_
  refine yN ?_
  dsimp only [St.put]
  refine K10 _ ?_
  refine yR ?_
  refine yM rfl rfl ?_
  refine yF rfl rfl rfl rfl ?_
  refine yL rfl rfl rfl ?_
  refine aa rfl (bp rfl rfl (List.length_map _)) ?_
  refine aa rfl (bz rfl rfl rfl (by omega)) ?_
  refine yA rfl rfl ?_
  refine yN ?_
  dsimp only [St.put]
  refine K8 _ ?_
  refine yR ?_
  refine aa rfl (bz rfl rfl rfl (by omega)) ?_
  refine yM rfl rfl ?_
  refine yN ?_
  dsimp only [St.put]
  rw [← hst]
  simp only [← ug9]
  exact ⟨k + 1, by omega, by omega, ⟨⟨rfl, rfl⟩, zF, zB, zN, zX⟩⟩
 replace hc := of_decide_eq_false hc
 obtain rfl : k = t.length := by omega
 refine c7 ?_
 refine K4 _ ?_
 refine yS fun _ K11 => ?_
 refine yR ?_
 refine yM rfl rfl ?_
 refine yM rfl rfl ?_
 refine yA rfl rfl ?_
 refine yA rfl rfl ?_
 refine yN ?_
 dsimp only [St.put]
 refine K11 _ ?_
 refine ax ?_
 refine ia rfl (ef (by constructor)) (ef (by constructor)) zN zS ?_ ?_
 ·exact zW
 exact Wk.of_eq (vi rfl)
end Go.Proofs.YtbbdginipiljdaaGreatDoor
namespace Go.AB
open Go Go.RowKit Go.ChangeShapes Go.WideShapes
open Go.AB.Enc (cells)
open Go.PB (ba ai PlaceD bh bj bi)
/-- What is read along a type is a datum. -/
class OpensE (P : Program) (t : TypeId) (α : Type) [Enc α] : Prop where
 n : P.cellsOf t = Enc.n α
 op : ∀ {H : Type} {enc : TypeId × Value → H} {w : World} {base : Nat} {spare : Nat → Bool} {held : Bool} {fuel : Nat} {cs : List Value} {x : DataW H × List MemPlace}, DataW.trod enc P w base spare held fuel t cs = some x → ∃ a : α, Rs (jx w) w (cells a) cs
def s9 (P : Program) (t : TypeId) (k : IntKind) : Bool := match P.underlying t with | some (.int k') => k' == k && P.cellsOf t == 1 | _ => false
def xb (P : Program) (t : TypeId) : Bool := match P.underlying t with | some .string => P.cellsOf t == 1 | _ => false
def xe (P : Program) (t e : TypeId) : Bool := match P.underlying t with | some (.slice e') => e' == e && P.cellsOf t == 1 | _ => false
def js (P : Program) (t : TypeId) (l : List (Nat × TypeId × Nat)) (n : Nat) : Bool := match P.underlying t with
 | some (.struct fs) => (fs.toList.map fun f => (f.offset, f.type, P.cellsOf f.type)) == l && P.cellsOf t == n
 | _ => false
theorem wfI64 {n : Int} (h : (Lit.int .i64 n).wf = true) : okV (.int .i64 n) = true := by
 simp [Lit.wf, IntKind.min, IntKind.max, IntKind.signed, IntKind.bits] at h
 exact kg ⟨by omega, by omega⟩
theorem wfU8 {n : Int} (h : (Lit.int .u8 n).wf = true) : okV (.int .u8 n) = true := by
 simp [Lit.wf, IntKind.min, IntKind.max, IntKind.signed, IntKind.bits] at h
 exact xy ⟨by omega, by omega⟩
section
variable {P : Program} {t e : TypeId}
theorem yj {k : IntKind} (h : s9 P t k = true) : P.underlying t = some (.int k) ∧ P.cellsOf t = 1 := by
 unfold s9 at h
 split at h
 ·rename_i k' he
  simp only [Bool.and_eq_true, beq_iff_eq] at h
  rw [he, h.1]; exact ⟨rfl, h.2⟩
 ·cases h
theorem uak (h : xb P t = true) : P.underlying t = some .string ∧ P.cellsOf t = 1 := by
 unfold xb at h
 split at h
 ·rename_i he; exact ⟨he, by simpa using h⟩
 ·cases h
theorem uas (h : xe P t e = true) : P.underlying t = some (.slice e) ∧ P.cellsOf t = 1 := by
 unfold xe at h
 split at h
 ·rename_i k' he
  simp only [Bool.and_eq_true, beq_iff_eq] at h
  rw [he, h.1]; exact ⟨rfl, h.2⟩
 ·cases h
theorem Rs.single {E : Env} {w : World} {c : C} {v : Value} (h : R E w c v) : Rs E w [c] [v] := Rs.cons h Rs.nil
theorem Rs.single_inv {E : Env} {w : World} {c : C} {v : Value} (h : Rs E w [c] [v]) : R E w c v := h.2 0 c v rfl rfl
theorem OpensE.int (h : s9 P t .i64 = true) : OpensE P t Int where
 n := (yj h).2
 op hx := by
  obtain ⟨n, rfl, _, h2⟩ := DataW.trod_int (yj h).1 hx
  exact ⟨n, Rs.single (.v (wfI64 h2))⟩
theorem OpensE.str (h : xb P t = true) : OpensE P t ByteArray where
 n := (uak h).2
 op hx := by
  obtain ⟨s, rfl, _, h2⟩ := DataW.trod_string (uak h).1 hx
  exact ⟨s, Rs.single (.v (okV_str.2 (by simpa [maxLen] using h2)))⟩
theorem uha {w : World} {a : Addr} {v : Value} (h : w.cell? a = some v) : a.spot = none := by
 unfold World.cell? at h
 split at h
 ·split at h
  ·cases h
  ·rename_i hs
   cases hsp : a.spot with
   | none => rfl
   | some s => simp [hsp] at hs
 ·cases h
theorem ucy {α : Type} {p : Nat → α → Prop} : ∀ (n : Nat), (∀ i, i < n → ∃ x, p i x) → ∃ xs : List α, xs.length = n ∧ ∀ i x, xs[i]? = some x → p i x
 | 0, _ => ⟨[], rfl, fun i x h => by simp at h⟩
 | n + 1, h => by
  obtain ⟨xs, h1, h2⟩ := ucy n fun i hi => h i (by omega)
  obtain ⟨y, hy⟩ := h n (by omega)
  refine ⟨xs ++ [y], by simp [h1], fun i x hx => ?_⟩
  by_cases hi : i < xs.length
  ·rw [List.getElem?_append_left hi] at hx; exact h2 i x hx
  ·rw [List.getElem?_append_right (by omega)] at hx
   have hz : i - xs.length = 0 := by
    have := (List.getElem?_eq_some_iff.1 hx).1
    simp at this; omega
   rw [hz] at hx
   simp at hx
   subst hx
   rw [show i = n by omega]; exact hy
theorem ua4 {α : Type} [Enc α] {E : Env} {w : World} {b : Nat} : ∀ (xs : List α) (off : Nat), (∀ i x, xs[i]? = some x → ∃ es, Rs E w (cells x) es ∧ ∀ j e, es[j]? = some e → w.cell? ⟨b, off + i * Enc.n α + j, none⟩ = some e) →
  ∃ us, Rs E w (xs.map cells).flatten us ∧ ∀ j u, us[j]? = some u → w.cell? ⟨b, off + j, none⟩ = some u
 | [], off, _ => ⟨[], Rs.nil, by simp⟩
 | x :: xs, off, h => by
  obtain ⟨es, h1, h2⟩ := h 0 x rfl
  obtain ⟨us, h3, h4⟩ := ua4 xs (off + Enc.n α) fun i y hy => by
   obtain ⟨fs, k1, k2⟩ := h (i + 1) y (by simpa using hy)
   exact ⟨fs, k1, fun j e he => by rw [← k2 j e he]; congr 2; rw [Nat.add_mul]; omega⟩
  have hl : es.length = Enc.n α := by rw [h1.1]; exact Enc.len x
  refine ⟨es ++ us, by rw [List.map_cons, List.flatten_cons]; exact h1.append h3, fun j u hu => ?_⟩
  by_cases hj : j < es.length
  ·rw [List.getElem?_append_left hj] at hu
   rw [← h2 j u hu]; congr 2; omega
  ·rw [List.getElem?_append_right (by omega)] at hu
   rw [← h4 _ u hu]; congr 2; omega
theorem OpensE.slice {α : Type} [Enc α] [o : OpensE P e α] (h : xe P t e = true) (hpos : 1 ≤ Enc.n α) : OpensE P t (List α) where
 n := (uas h).2
 op {H enc w base spare held fuel cs x} hx := by
  rcases Deep.open_slice (uas h).1 hx with ⟨rfl, _⟩ | ⟨a, len, cap, m, n, D, Pl, rfl, hb, hl, hm, hmm, _, hel⟩
  ·refine ⟨[], Rs.single ?_⟩
   exact R.mk_list (rows := []) (sz := 1) (us := []) (Nat.le_refl _) (Nat.zero_le _) (Nat.le_refl _) (by simp) (by simp) Rs.nil (.inl rfl) (by simp) (by simp) (by simp)
  ·have hlm : len ≤ m := by rw [hmm]; split <;> omega
   have hs : 0 < len → a.spot = none := fun h0 => by
    obtain ⟨cs', hc, ht⟩ := hel 0 (by omega)
    obtain ⟨_, hlen, hcell⟩ := World.cells?_some hc
    rw [o.n] at hlen hcell
    have := hcell 0 (by omega)
    rw [List.getElem?_eq_getElem (by omega)] at this
    have := uha this
    simpa [Addr.add] using this
   obtain ⟨xs, h1, h2⟩ := ucy (p := fun i (y : α) => ∃ es, Rs (jx w) w (cells y) es ∧ ∀ j e, es[j]? = some e → w.cell? ⟨a.block, a.off + i * Enc.n α + j, none⟩ = some e) len fun i hi => by
    obtain ⟨cs', hc, ht⟩ := hel i (by omega)
    obtain ⟨y, hy⟩ := o.op ht
    obtain ⟨_, hlen, hcell⟩ := World.cells?_some hc
    rw [o.n] at hlen hcell hc
    have hs' := hs (by omega)
    refine ⟨y, cs', hy, fun j u hj => ?_⟩
    have hj' : j < Enc.n α := by rw [← hlen]; exact (List.getElem?_eq_some_iff.1 hj).1
    have := hcell j hj'
    rw [hj] at this
    rw [← this]
    obtain ⟨ab, ao, asp⟩ := a
    dsimp only at hs'
    subst hs'
    rw [p8, p8]
   subst h1
   refine ⟨xs, Rs.single ?_⟩
   obtain ⟨us, k1, k2⟩ := ua4 (E := jx w) (w := w) (b := a.block) xs a.off h2
   have := R.mk_list (E := jx w) (w := w) (rows := xs.map cells) (a := some a) (cap := cap) (sz := Enc.n α) (us := us) (tok := .none) (by simpa using hl) hm hpos (l7 xs) (fun r hr c hc => by
    obtain ⟨x, _, rfl⟩ := List.mem_map.1 hr
    exact Enc.one x c hc) k1 (by
    by_cases hxs : xs = []
    ·subst hxs; exact .inl rfl
    ·right
     have hs' := hs (List.length_pos_iff.2 hxs)
     obtain ⟨ab, ao, asp⟩ := a
     dsimp only at hs'
     subst hs'
     refine ⟨ab, ao, rfl, ?_, k2⟩
     have h0 : 0 < us.length := by
      rw [k1.1, m6 (l7 xs), List.length_map]
      exact Nat.mul_pos (List.length_pos_iff.2 hxs) hpos
     have := uen (k2 (us.length - 1) _ (List.getElem?_eq_getElem (by omega)))
     dsimp only at this
     show ao + us.length ≤ pz w ab
     omega) (by simp) (by simp) (by simp)
   rw [List.length_map] at this
   exact this
theorem ual {l : List (Nat × TypeId × Nat)} {n : Nat} (h : js P t l n = true) {H : Type} {enc : TypeId × Value → H} {w : World} {base : Nat} {spare : Nat → Bool} {held : Bool} {fuel : Nat} {cs : List Value} {x : DataW H × List MemPlace}
  (hx : DataW.trod enc P w base spare held fuel t cs = some x) : cs.length = n ∧ ∀ p ∈ l, ∃ m y, DataW.trod enc P w base spare held m p.2.1 ((cs.drop p.1).take p.2.2) = some y := by
 unfold js at h
 split at h
 ·rename_i fs he
  simp only [Bool.and_eq_true, beq_iff_eq] at h
  obtain ⟨xs, m, _, _, hl, hlen, hf⟩ := DataW.trod_struct he hx
  refine ⟨by rw [hl, h.2], fun p hp => ?_⟩
  rw [← h.1] at hp
  obtain ⟨f, hfm, rfl⟩ := List.mem_map.1 hp
  obtain ⟨i, hi⟩ := List.getElem?_of_mem hfm
  have hi' : fs[i]? = some f := by simpa using hi
  have hlt : i < xs.length := by rw [hlen]; exact (Array.getElem?_eq_some_iff.1 hi').1
  exact ⟨m, xs[i], by rw [← List.getElem?_eq_getElem hlt]; exact hf i f hi'⟩
 ·cases h
theorem uc {l : List (Nat × TypeId × Nat)} {n : Nat} (h : js P t l n = true) : P.cellsOf t = n ∧ ∃ fs, P.underlying t = some (.struct fs) := by
 unfold js at h
 split at h
 ·rename_i fs he
  simp only [Bool.and_eq_true, beq_iff_eq] at h
  exact ⟨h.2, fs, he⟩
 ·cases h
/-- A struct of one field. -/
theorem OpensE.one {α : Type} [Enc α] [o : OpensE P e α] (h : js P t [(0, e, Enc.n α)] (Enc.n α) = true) : OpensE P t α where
 n := (uc h).1
 op {H enc w base spare held fuel cs x} hx := by
  obtain ⟨hl, hp⟩ := ual h hx
  obtain ⟨m, y, hy⟩ := hp _ (List.mem_cons_self ..)
  obtain ⟨a, ha⟩ := o.op hy
  dsimp only at ha
  rw [List.drop_zero, List.take_of_length_le (by omega)] at ha
  exact ⟨a, ha⟩
/-- A struct, field by field. -/
theorem OpensE.struct {α : Type} [Enc α] {l : List (Nat × TypeId × Nat)} (h : js P t l (Enc.n α) = true)
  (b : ∀ (w : World) (cs : List Value), cs.length = Enc.n α → (∀ p ∈ l, ∀ (β : Type) (_ : Enc β), OpensE P p.2.1 β → ∃ a : β, Rs (jx w) w (cells a) ((cs.drop p.1).take p.2.2)) → ∃ a : α, Rs (jx w) w (cells a) cs) : OpensE P t α where
 n := (uc h).1
 op {H enc w base spare held fuel cs x} hx := by
  obtain ⟨hl, hp⟩ := ual h hx
  exact b w cs hl fun p hpl β _ o => let ⟨_, _, hy⟩ := hp p hpl; o.op hy
theorem OpensE.chap {tI tL : TypeId} [oI : OpensE P tI Int] [oL : OpensE P tL (List (List ByteArray))] (h : js P t [(0, tI, 1), (1, tL, 1)] 2 = true) : OpensE P t ba :=
 .struct (α := ba) h fun w cs hl hp => by
  obtain ⟨a, ha⟩ := hp (0, tI, 1) (by simp) Int inferInstance oI
  obtain ⟨b, hb⟩ := hp (1, tL, 1) (by simp) (List (List ByteArray)) inferInstance oL
  match cs, hl with
  | [u, v], _ => exact ⟨⟨a, b⟩, Rs.cons (Rs.single_inv ha) hb⟩
theorem OpensE.place {tI : TypeId} [oI : OpensE P tI Int] (h : js P t [(0, tI, 1), (1, tI, 1), (2, tI, 1)] 3 = true) : OpensE P t PlaceD :=
 .struct (α := PlaceD) h fun w cs hl hp => by
  obtain ⟨a, ha⟩ := hp (0, tI, 1) (by simp) Int inferInstance oI
  obtain ⟨b, hb⟩ := hp (1, tI, 1) (by simp) Int inferInstance oI
  obtain ⟨c, hc⟩ := hp (2, tI, 1) (by simp) Int inferInstance oI
  match cs, hl with
  | [u, v, x], _ => exact ⟨⟨a, b, c⟩, Rs.cons (Rs.single_inv ha) (Rs.cons (Rs.single_inv hb) hc)⟩
/-- An argument that is a struct; a number. -/
theorem OpensE.arg {α : Type} [Enc α] [o : OpensE P t α] {l : List (Nat × TypeId × Nat)} {n : Nat} (h : js P t l n = true) {H : Type} {enc : TypeId × Value → H} {w : World} {base : Nat} {spare : Nat → Bool} {held : Bool} {r : Reach} {b0 : Nat} {v : Value} {d : DataW H} {ps : List MemPlace}
  (hv : Value.okWide P w r b0 t v) (hd : DataW.Trod enc P w base spare held t v d ps) : ∃ a : α, R (jx w) w (.agg (cells a)) v := by
 obtain ⟨fs, hs⟩ := (uc h).2
 obtain ⟨cs, rfl, _⟩ := okWide_struct hs hv
 obtain ⟨fuel, hf⟩ := hd
 obtain ⟨a, ha⟩ := o.op hf
 exact ⟨a, by simpa [Value.cells] using Rs.agg ha (Enc.one a)⟩
end
theorem uk0 {P : Program} {f : FuncId} {cs : List C} {v fv : Value} {fc : C} (hp : PureF (.fact fv fc) P f cs (.v v)) {w : World} {args : List Value} (hF : R (jx w) w fc fv) (hr : Rs (jx w) w cs args) :
  Calls P f args.toArray w fun e w' => e = .returned v ∧ Below w.heap.size w w' := by
 obtain ⟨E1, v1, g1⟩ := udx (unq w) hF
 refine (hp _ _ (ni _ _ _) E1 w args (hr.ev v1) g1).mono ?_
 rintro e w' ⟨r, x, E', G', nx', rfl, hev, hx, _, rfl, _⟩
 exact ⟨by rw [hx.v_inv], by have := hev.below; rw [v1.B] at this; exact this⟩
end Go.AB
namespace Go.AB
open Go Go.RowKit Go.ChangeShapes Go.WideShapes
open Go.AB.Enc (cells)
variable {P : Program} {o : Oper} {st : St}
theorem OpensE.argU8 {t : TypeId} (h : s9 P t .u8 = true) {H : Type} {enc : TypeId × Value → H} {w : World} {base : Nat} {spare : Nat → Bool} {held : Bool} {r : Reach} {b0 : Nat} {v : Value} {d : DataW H} {ps : List MemPlace}
  (hv : Value.okWide P w r b0 t v) (hd : DataW.Trod enc P w base spare held t v d ps) : ∃ a : Int, R (jx w) w (.v (.int .u8 a)) v := by
 obtain ⟨i, rfl, _, _, wi⟩ := open_int (yj h).1 hv hd
 exact ⟨i, .v (wfU8 wi)⟩
theorem ugl {n : Int} (h : (C.v (.int .u8 n)).fit) : 0 ≤ n ∧ n ≤ 255 := (okV_int.1 (fit_v.1 h) : _)
end Go.AB
namespace Go.AB
open Go Go.RowKit
open Go.AB.Enc (cells)
variable {P : Program} {o : Oper} {st : St}
theorem x9 {xt yt : TypeId} {x y : Operand} {m n : Int} (ho : o.op = .binOp .mul xt x y yt) (hx : evC st x = .v (.int .i64 m)) (hy : evC st y = .v (.int .i64 n)) (hb : -9223372036854775808 ≤ m * n ∧ m * n ≤ 9223372036854775807) : NStep P o st (.v (.int .i64 (m * n))) :=
 k8 ho hx hy (kg hb) fun w => by
  have : IntKind.i64.wrap (m * n) = m * n := by rw [IntKind.wrap_i64]; omega
  simp [eqGuard, binOp, Op.intArith, this]
theorem x8 {xt yt : TypeId} {x y : Operand} {m n : Int} (ho : o.op = .binOp .quo xt x y yt) (hx : evC st x = .v (.int .i64 m)) (hy : evC st y = .v (.int .i64 n)) (hm : 0 ≤ m ∧ m ≤ 9223372036854775807) (hn : 0 < n) : NStep P o st (.v (.int .i64 (m / n))) := by
 have h3 : 0 ≤ m / n := Int.ediv_nonneg hm.1 (by omega)
 have h4 : m / n ≤ m := Int.ediv_le_self _ hm.1
 exact k8 ho hx hy (kg (by omega)) fun w => by
  have h1 : ¬ n = 0 := by omega
  have h2 : m.tdiv n = m / n := Int.tdiv_eq_ediv_of_nonneg hm.1
  have h5 : IntKind.i64.wrap (m / n) = m / n := by rw [IntKind.wrap_i64]; omega
  simp [eqGuard, binOp, Op.intDiv, h1, h2, h5]
theorem ugm {n : Nat} (h : n ≤ 62) : (2 : Int) ^ n ≤ 4611686018427387904 := by
 have : 2 ^ n ≤ 2 ^ 62 := Nat.pow_le_pow_right (by omega) h
 have h2 : ((2 ^ n : Nat) : Int) = (2 : Int) ^ n := by norm_cast
 rw [← h2]
 have h3 : (2 : Nat) ^ 62 = 4611686018427387904 := by decide
 omega
/-- one, shifted -/
theorem ucc {xt yt : TypeId} {x y : Operand} {n : Nat} (ho : o.op = .binOp .shl xt x y yt) (hx : evC st x = .v (.int .i64 1)) (hy : evC st y = .v (.int .i64 (n : Int))) (hn : n ≤ 62) : NStep P o st (.v (.int .i64 ((2 ^ n : Nat) : Int))) := by
 have h0 := ugm hn
 have h2 : ((2 ^ n : Nat) : Int) = (2 : Int) ^ n := by norm_cast
 have h1 : 0 ≤ ((2 ^ n : Nat) : Int) := Int.natCast_nonneg _
 exact k8 ho hx hy (kg (by omega)) fun w => by
  have e1 : ¬ ((n : Int) < 0) := by omega
  have e2 : min (n : Int).toNat IntKind.i64.bits = n := by rw [Int.toNat_natCast]; show min n 64 = n; omega
  have e3 : IntKind.i64.wrap (1 * 2 ^ n) = ((2 ^ n : Nat) : Int) := by rw [Int.one_mul, ← h2, IntKind.wrap_i64]; omega
  simp only [eqGuard, binOp, Op.shift, e1, if_false, e2, e3]
  rfl
/-- a number that is not below 0, shifted back -/
theorem si {xt yt : TypeId} {x y : Operand} {k : IntKind} {m n : Nat} (ho : o.op = .binOp .shr xt x y yt) (hx : evC st x = .v (.int k (m : Int))) (hy : evC st y = .v (.int .i64 (n : Int))) (hn : n ≤ k.bits) (hm : (m : Int) ≤ hiK k) (hk : loK k ≤ 0) : NStep P o st (.v (.int k ((m / 2 ^ n : Nat) : Int))) := by
 have h4 : m / 2 ^ n ≤ m := Nat.div_le_self _ _
 exact n_int' ho hx hy (okV_int.2 (by obtain ⟨q, hq⟩ : ∃ q, m / 2 ^ n = q := ⟨_, rfl⟩; rw [hq] at h4 ⊢; omega)) fun w => by
  have e1 : ¬ ((n : Int) < 0) := by omega
  have e2 : min (n : Int).toNat k.bits = n := by rw [Int.toNat_natCast]; omega
  have e3 : (m : Int).fdiv (2 ^ n) = ((m / 2 ^ n : Nat) : Int) := by
   have h2 : ((2 ^ n : Nat) : Int) = (2 : Int) ^ n := by norm_cast
   rw [← h2, Int.fdiv_eq_ediv_of_nonneg _ (Int.natCast_nonneg _)]
   norm_cast
  simp only [eqGuard, binOp, Op.shift, e1, if_false, e2, e3]
  rfl
where
 n_int' {op : BinOp} {xt yt : TypeId} {x y : Operand} {k k' : IntKind} {m n : Int} {r : Value} (ho : o.op = .binOp op xt x y yt) (hx : evC st x = .v (.int k m)) (hy : evC st y = .v (.int k' n))
  (h1 : okV r = true) (h : ∀ w, (do eqGuard op xt x y (.int k m) (.int k' n); binOp op xt (.int k m) (.int k' n)).run P w = .ok r w) : NStep P o st (.v r) := fun E w a hs => by
  have e1 := (hx ▸ hs.ev x).v_inv
  have e2 := (hy ▸ hs.ev y).v_inv
  refine ⟨r, .v h1, fun w' => ?_⟩
  have := h w'
  simp only [execOp, ho, e1, e2, Sem.run_bind] at this ⊢
  rw [this]
  rfl
/-- the last bit -/
theorem sl {xt yt : TypeId} {x y : Operand} {k : IntKind} {m : Nat} (ho : o.op = .binOp .and xt x y yt) (hx : evC st x = .v (.int k (m : Int))) (hy : evC st y = .v (.int k 1)) (hm : m < 2 ^ k.bits) (hb : 2 ≤ k.bits) : NStep P o st (.v (.int k ((m % 2 : Nat) : Int))) := by
 have h2 : m % 2 < 2 := Nat.mod_lt _ (by omega)
 exact k8 ho hx hy (okV_int.2 (by cases k <;> simp only [loK, hiK] <;> omega)) fun w => by
  have e1 : (BitVec.ofInt k.bits (m : Int) &&& BitVec.ofInt k.bits 1).toNat = m % 2 := by
   have q1 : (BitVec.ofInt k.bits (m : Int)).toNat = m := by
    rw [show BitVec.ofInt k.bits (m : Int) = BitVec.ofNat k.bits m from BitVec.ofInt_natCast .., BitVec.toNat_ofNat, Nat.mod_eq_of_lt hm]
   have q2 : (BitVec.ofInt k.bits 1).toNat = 1 := by
    rw [show BitVec.ofInt k.bits 1 = BitVec.ofNat k.bits 1 from BitVec.ofInt_natCast k.bits 1, BitVec.toNat_ofNat, Nat.mod_eq_of_lt]
    exact Nat.one_lt_two_pow (by omega)
   rw [BitVec.toNat_and, q1, q2, Nat.and_one_is_mod]
  have e2 : k.wrap ((m % 2 : Nat) : Int) = ((m % 2 : Nat) : Int) := by
   have : m % 2 = 0 ∨ m % 2 = 1 := by omega
   rcases this with h | h <;> rw [h] <;> cases k <;> decide
  simp only [eqGuard, binOp, Op.intBits, e1, e2]
  simp
end Go.AB
namespace Go.AB
open Go Go.RowKit
open Go.AB.Enc (cells)
open Go.PB (ba ai PlaceD bh bj bi bw aw ah cw br dg dl)
theorem uap {t : ai} (ht : dz t = true) (k : Nat) : f9 t k ≤ 60 := by
 obtain ⟨_, h2, h3⟩ := lj ht
 have key : ∀ j, j ≤ t.length → f9 t j ≤ j * 10 := by
  intro j
  induction j with
  | zero => intro _; rw [uao]; exact Nat.zero_le _
  | succ j ih =>
   intro hj
   have hc : t[j]? = some t[j] := List.getElem?_eq_getElem (by omega)
   rw [rr hc]
   have := (h3 _ (List.mem_of_getElem? hc)).2.1
   have := ih (by omega)
   omega
 by_cases q : k ≤ t.length
 ·have := key k q; omega
 have h1 := key t.length (Nat.le_refl _)
 have e : f9 t k = f9 t t.length := by
  unfold f9
  rw [List.take_of_length_le (show t.length ≤ k by omega), List.take_of_length_le (Nat.le_refl _)]
 omega
instance decLtW : ∀ a b : List Int, Decidable (ltW a b)
 | [], _ => isFalse (by simp [ltW])
 | _ :: _, [] => isFalse (by simp [ltW])
 | x :: a, y :: b => by
  have := decLtW a b
  unfold ltW
  exact inferInstance
theorem um9 {a b : List Int} (h : a.length = b.length) : gu a b = decide (ltW a b) := by
 rw [Bool.eq_iff_iff, tm, decide_eq_true_eq]
 exact ⟨fun k => k.elim (fun k => by omega) (fun k => k.2), fun k => .inr ⟨h, k⟩⟩
/-- lists that are the same so far, and then not -/
theorem uct : ∀ {a b : List Int} {k : Nat} {x y : Int}, a.take k = b.take k → a[k]? = some x → b[k]? = some y → x ≠ y → (ltW a b ↔ x < y)
 | [], _, _, _, _, _, h, _, _ => by simp at h
 | _ :: _, [], _, _, _, _, _, h, _ => by simp at h
 | u :: a, v :: b, 0, x, y, _, h1, h2, hn => by
  simp only [List.getElem?_cons_zero, Option.some.injEq] at h1 h2
  subst h1; subst h2
  simp only [ltW]
  exact ⟨fun h => h.elim id (fun h => absurd h.1 hn), .inl⟩
 | u :: a, v :: b, k + 1, x, y, he, h1, h2, hn => by
  simp only [List.take_succ_cons, List.cons.injEq] at he
  obtain ⟨e1, e2⟩ := he
  subst e1
  have := uct e2 (by simpa using h1) (by simpa using h2) hn
  show (u < u ∨ u = u ∧ ltW a b) ↔ x < y
  rw [this]
  exact ⟨fun h => h.elim (fun h => absurd h (Int.lt_irrefl _)) (fun h => h.2), fun h => .inr ⟨rfl, h⟩⟩
end Go.AB
namespace Go.Proofs.YtbbdginipiljdaaGreatDoor
set_option maxRecDepth 10000
open Go.RowKit Go.AB
open Go.AB.Enc (cells)
open Go.PB (ba ai PlaceD bh bj bi bw aw ah cw br dg dl)
theorem qg (n lo hi : Int) : Pure Tryz.prog 71 [.v (.int .i64 n), .v (.int .i64 lo), .v (.int .i64 hi)] (.v (.bool (inB n lo hi))) := by
 refine c6 Tryz.func71 rfl (fun m => .v) fun G nx => ?_
 simp only [Tryz.ntmps71, List.length_cons, List.length_nil, Nat.reduceAdd, Nat.reduceSub]
 refine cc fun hlt => ?_
 dsimp only at hlt
 refine yS fun _ K1 => ?_
 refine yR ?_
 refine yA rfl rfl ?_
 refine yN ?_
 dsimp only [St.put]
 refine K1 _ ?_
 refine yS fun _ K2 => ?_
 refine yR ?_
 refine yM rfl rfl ?_
 refine yM rfl rfl ?_
 refine aa rfl (lp rfl rfl rfl) ?_
 refine ff (fun hs => ?_) (fun hs => ?_)
 ·try replace hs := of_decide_eq_true hs
  refine yM rfl rfl ?_
  refine yM rfl rfl ?_
  refine yM rfl rfl ?_
  refine aa rfl (sj rfl rfl rfl) ?_
  refine aa rfl (ci rfl rfl (by constructor)) ?_
  refine yA rfl rfl ?_
  refine yN ?_
  dsimp only [St.put]
  refine K2 _ ?_
  refine ax ?_
  refine bf rfl (by constructor) zN zS ?_
  exact vb (by simp [inB, hs]; try omega)
 try replace hs := of_decide_eq_false hs
 refine yM rfl rfl ?_
 refine yK rfl ?_
 refine yK rfl ?_
 refine yK rfl ?_
 refine aa rfl (c5 rfl rfl (by constructor)) ?_
 refine yA rfl rfl ?_
 refine yN ?_
 dsimp only [St.put]
 refine K2 _ ?_
 refine ax ?_
 refine bf rfl (by constructor) zN zS ?_
 exact vb (by simp [inB, hs]; try omega)
theorem uim (t : ai) (ht : dz t = true) : Pure Tryz.prog 107 [i9 t] (.v (.int .i64 (l8 t : Int))) := by
 refine c6 Tryz.func107 rfl (fun m => .v) fun G nx => ?_
 simp only [Tryz.ntmps107, List.length_cons, List.length_nil, Nat.reduceAdd, Nat.reduceSub]
 refine cc fun hlt => ?_
 dsimp only at hlt
 obtain ⟨hl1, hl2, hl3⟩ := lj ht
 refine yS fun _ K1 => ?_
 refine yR ?_
 try dsimp only [St.put]
 refine yB rfl rfl rfl ?_
 refine yA rfl rfl ?_
 refine yN ?_
 dsimp only [St.put]
 refine K1 _ ?_
 refine yS fun _ K2 => ?_
 refine yR ?_
 refine yA rfl rfl ?_
 refine yN ?_
 dsimp only [St.put]
 refine K2 _ ?_
 refine yS fun _ K3 => ?_
 refine yS fun _ K4 => ?_
 refine yR ?_
 refine yA rfl rfl ?_
 refine yN ?_
 dsimp only [St.put]
 refine K4 _ ?_
 refine bg ?_
 refine ct 5 ?_
 refine zQ ?_
 refine dd (G) zX ?_
 dsimp only
 refine dc (X := Nat) (fun k => k ≤ t.length) (fun k => t.length - k) (fun k => [(3, .v (.int .i64 ((f9 t k : Nat) : Int))), (4, .v (.int .i64 (k : Int)))]) (fun k G' => G') 0 rfl ?_ ?_ (fun _ _ h => h) ?_ ?_ ?_
 ·exact Nat.zero_le _
 ·exact zF
 ·rintro k hI
  exact zL
 ·exact fun _ _ _ _ h => .inl h
 rintro k hI
 dsimp only at hI ⊢
 refine yS fun _ K5 => ?_
 refine yS fun _ K6 => ?_
 refine yR ?_
 refine yM rfl rfl ?_
 refine yF rfl rfl rfl rfl ?_
 refine yL rfl rfl rfl ?_
 refine aa rfl (bp rfl rfl (List.length_map _)) ?_
 refine aa rfl (cp rfl rfl rfl) ?_
 refine yN ?_
 dsimp only [St.put]
 refine K6 _ ?_
 refine av rfl (fun hc => ?_) (fun hc => ?_)
 ·replace hc := of_decide_eq_true hc
  obtain ⟨c, hk⟩ : ∃ x, t[k]? = some x := dp (by omega)
  have hcl := hl3 c (gd hk)
  have hst := uap ht k
  refine ay ?_
  refine K5 _ ?_
  refine yS fun _ K7 => ?_
  refine bg ?_
  refine yR ?_
  refine yM rfl rfl ?_
  refine yF rfl rfl rfl rfl ?_
  refine yL rfl rfl rfl ?_
  refine yM rfl rfl ?_
  refine aa rfl (bx rfl rfl rfl rfl (bv (by assumption)) (Enc.len _)) ?_
  refine yF rfl rfl rfl rfl ?_
  refine yL rfl rfl rfl ?_
  refine aa rfl (bp rfl rfl (List.length_map _)) ?_
  refine aa rfl (bz rfl rfl rfl (by omega)) ?_
  refine yA rfl rfl ?_
  refine yN ?_
  dsimp only [St.put]
  refine K7 _ ?_
  refine yR ?_
  refine yM rfl rfl ?_
  refine aa rfl (bz rfl rfl rfl (by omega)) ?_
  refine yA rfl rfl ?_
  refine yN ?_
  dsimp only [St.put]
  have e := rr hk
  rw [show ((f9 t k : Nat) : Int) + (c.lines.length : Int) = ((f9 t (k + 1) : Nat) : Int) by rw [e]; rfl]
  exact ⟨k + 1, by omega, by omega, ⟨⟨rfl, rfl⟩, zF, zB, zN, zX⟩⟩
 replace hc := of_decide_eq_false hc
 obtain rfl : k = t.length := by omega
 refine c7 ?_
 refine K3 _ ?_
 refine yS fun _ K8 => ?_
 refine yR ?_
 refine yM rfl rfl ?_
 refine yA rfl rfl ?_
 refine yN ?_
 dsimp only [St.put]
 refine K8 _ ?_
 refine ax ?_
 refine bf rfl (by constructor) zN zS ?_
 rfl
theorem ubd (t : ai) (q : PlaceD) (ht : dz t = true) (hq : fw t q = true) : Pure Tryz.prog 25 [i9 t, val q] (.v (.int .i64 (pt t q))) := by
 refine c6 Tryz.func25 rfl (fun m => .v) fun G nx => ?_
 simp only [Tryz.ntmps25, List.length_cons, List.length_nil, Nat.reduceAdd, Nat.reduceSub]
 refine cc fun hlt => ?_
 dsimp only at hlt
 obtain ⟨hl1, hl2, hl3⟩ := lj ht
 obtain ⟨kc, kn, kw, c0, l0, hqe, hkc, hkn, _⟩ := ubj hq
 have hkcl := (List.getElem?_eq_some_iff.1 hkc).1
 have hknl := (List.getElem?_eq_some_iff.1 hkn).1
 have hc0 := (hl3 c0 (gd hkc)).2.1
 subst hqe
 refine yS fun _ K1 => ?_
 refine yR ?_
 try dsimp only [St.put]
 refine yB rfl rfl rfl ?_
 try dsimp only [St.put]
 refine yB rfl rfl rfl ?_
 refine yA rfl rfl ?_
 refine yN ?_
 dsimp only [St.put]
 refine K1 _ ?_
 refine yS fun _ K2 => ?_
 refine yR ?_
 refine yF rfl rfl rfl rfl ?_
 refine yL rfl rfl rfl ?_
 refine yA rfl rfl ?_
 refine yN ?_
 dsimp only [St.put]
 refine K2 _ ?_
 refine yS fun _ K3 => ?_
 refine yS fun _ K4 => ?_
 refine yR ?_
 refine yA rfl rfl ?_
 refine yN ?_
 dsimp only [St.put]
 refine K4 _ ?_
 refine bg ?_
 refine ct 7 ?_
 refine zQ ?_
 refine dd (G) zX ?_
 dsimp only
 refine dc (X := Nat) (fun k => k ≤ kc) (fun k => kc - k) (fun k => [(5, .v (.int .i64 ((kn : Int) + ((f9 t k : Nat) : Int)))), (6, .v (.int .i64 (k : Int)))]) (fun k G' => G') 0 rfl ?_ ?_ (fun _ _ h => h) ?_ ?_ ?_
 ·exact Nat.zero_le _
 ·exact zF
 ·rintro k hI
  exact zL
 ·exact fun _ _ _ _ h => .inl h
 rintro k hI
 dsimp only at hI ⊢
 refine yS fun _ K5 => ?_
 refine yS fun _ K6 => ?_
 refine yR ?_
 refine yM rfl rfl ?_
 refine yF rfl rfl rfl rfl ?_
 refine yL rfl rfl rfl ?_
 refine aa rfl (cp rfl rfl rfl) ?_
 refine yN ?_
 dsimp only [St.put]
 refine K6 _ ?_
 refine av rfl (fun hc => ?_) (fun hc => ?_)
 ·replace hc := of_decide_eq_true hc
  obtain ⟨c, hk⟩ : ∃ x, t[k]? = some x := dp (by omega)
  have hcl := hl3 c (gd hk)
  have hst := uap ht k
  refine ay ?_
  refine K5 _ ?_
  refine yS fun _ K7 => ?_
  refine bg ?_
  refine yR ?_
  refine yM rfl rfl ?_
  refine yF rfl rfl rfl rfl ?_
  refine yL rfl rfl rfl ?_
  refine yM rfl rfl ?_
  refine aa rfl (bx rfl rfl rfl rfl (bv (by assumption)) (Enc.len _)) ?_
  refine yF rfl rfl rfl rfl ?_
  refine yL rfl rfl rfl ?_
  refine aa rfl (bp rfl rfl (List.length_map _)) ?_
  refine aa rfl (bz rfl rfl rfl (by omega)) ?_
  refine yA rfl rfl ?_
  refine yN ?_
  dsimp only [St.put]
  refine K7 _ ?_
  refine yR ?_
  refine yM rfl rfl ?_
  refine aa rfl (bz rfl rfl rfl (by omega)) ?_
  refine yA rfl rfl ?_
  refine yN ?_
  dsimp only [St.put]
  have e := rr hk
  rw [show (kn : Int) + ((f9 t k : Nat) : Int) + (c.lines.length : Int) = (kn : Int) + ((f9 t (k + 1) : Nat) : Int) by rw [e, Int.natCast_add]; omega]
  exact ⟨k + 1, by omega, by omega, ⟨⟨rfl, rfl⟩, zF, zB, zN, zX⟩⟩
 replace hc := of_decide_eq_false hc
 obtain rfl : k = kc := by omega
 refine c7 ?_
 refine K3 _ ?_
 refine yS fun _ K8 => ?_
 refine yR ?_
 refine yM rfl rfl ?_
 refine yA rfl rfl ?_
 refine yN ?_
 dsimp only [St.put]
 refine K8 _ ?_
 refine ax ?_
 refine bf rfl (by constructor) zN zS ?_
 exact vi (by unfold pt; rw [Int.toNat_natCast])
theorem ubc (a b : List Int) (ha : a.length ≤ 1000) : Pure Tryz.prog 19 [lst a, lst b] (.v (.bool (decide (a = b)))) := by
 refine c6 Tryz.func19 rfl (fun m => .v) fun G nx => ?_
 simp only [Tryz.ntmps19, List.length_cons, List.length_nil, Nat.reduceAdd, Nat.reduceSub]
 refine cc fun hlt => ?_
 dsimp only at hlt
 refine lh 1 (fun hfb => ?_)
 have hb := (fit_lst.1 hfb).1
 refine yS fun _ K1 => ?_
 refine yR ?_
 refine yA rfl rfl ?_
 refine yN ?_
 dsimp only [St.put]
 refine K1 _ ?_
 refine yS fun _ K2 => ?_
 refine yS fun _ K3 => ?_
 refine yR ?_
 refine yM rfl rfl ?_
 refine aa rfl (bp rfl rfl (List.length_map _)) ?_
 refine yM rfl rfl ?_
 refine aa rfl (bp rfl rfl (List.length_map _)) ?_
 refine aa rfl (fl rfl rfl rfl) ?_
 refine yN ?_
 dsimp only [St.put]
 refine K3 _ ?_
 refine av rfl (fun hc => ?_) (fun hc => ?_)
 ·try replace hc := of_decide_eq_true hc
  refine yS fun _ K4 => ?_
  refine yR ?_
  refine yA rfl rfl ?_
  refine yN ?_
  dsimp only [St.put]
  refine K4 _ ?_
  refine ax ?_
  refine bf rfl (by constructor) zN zS ?_
  exact vb (by
   have : a ≠ b := fun e => by subst e; simp at hc
   simp [this])
 have hl : a.length = b.length := by
  have := ie hc
  omega
 refine ay ?_
 refine K2 _ ?_
 refine yS fun _ K5 => ?_
 refine yS fun _ K6 => ?_
 refine yR ?_
 refine yA rfl rfl ?_
 refine yN ?_
 dsimp only [St.put]
 refine K6 _ ?_
 refine bg ?_
 refine ct 6 ?_
 refine zQ ?_
 refine dd (G) zX ?_
 dsimp only
 refine dc (X := Nat) (fun k => k ≤ a.length ∧ a.take k = b.take k) (fun k => a.length - k) (fun k => [(5, .v (.int .i64 (k : Int)))]) (fun k G' => G') 0 rfl ?_ ?_ (fun _ _ h => h) ?_ ?_ ?_
 ·exact ⟨Nat.zero_le _, by simp⟩
 ·exact zF
 ·rintro k hI
  exact zL
 ·exact fun _ _ _ _ h => .inl h
 rintro k hI
 dsimp only at hI ⊢
 refine yS fun _ K7 => ?_
 refine yS fun _ K8 => ?_
 refine yR ?_
 refine yM rfl rfl ?_
 refine yM rfl rfl ?_
 refine aa rfl (bp rfl rfl (List.length_map _)) ?_
 refine aa rfl (cp rfl rfl rfl) ?_
 refine yN ?_
 dsimp only [St.put]
 refine K8 _ ?_
 refine av rfl (fun hc => ?_) (fun hc => ?_)
 ·replace hc := of_decide_eq_true hc
  obtain ⟨x, hx⟩ : ∃ x, a[k]? = some x := dp (by omega)
  obtain ⟨y, hy⟩ : ∃ y, b[k]? = some y := dp (by omega)
  refine ay ?_
  refine K7 _ ?_
  refine yS fun _ K9 => ?_
  refine bg ?_
  refine yS fun _ K10 => ?_
  refine g7 [(0, none), (1, none), (2, none), (3, none), (4, none), (5, none), (6, none), (7, none), (8, none)] (fun i => [].contains i) (fun i => [].contains i) (fun i => [0, 1, 2, 4, 5, 6, 8].contains i) [] (by kernel_rfl) (by kernel_rfl) ?_
  refine xM rfl rfl rfl rfl rfl ?_
  refine xM rfl rfl rfl rfl rfl ?_
  try dsimp only [St.put]
  refine ae rfl rfl rfl rfl (bx rfl rfl rfl rfl (bv (by assumption)) (Enc.len _)) ?_
  try dsimp only [St.put]
  refine bd rfl rfl rfl rfl (cm rfl rfl) ?_
  refine xM rfl rfl rfl rfl rfl ?_
  refine xM rfl rfl rfl rfl rfl ?_
  try dsimp only [St.put]
  refine ae rfl rfl rfl rfl (bx rfl rfl rfl rfl (bv (by assumption)) (Enc.len _)) ?_
  try dsimp only [St.put]
  refine bd rfl rfl rfl rfl (cm rfl rfl) ?_
  refine ae rfl rfl rfl rfl (fl rfl rfl rfl) ?_
  refine az ?_
  dsimp only [St.put]
  refine K10 _ ?_
  refine av rfl (fun hc => ?_) (fun hc => ?_)
  ·have hxy := jl hc
   refine yS fun _ K11 => ?_
   refine yR ?_
   refine yA rfl rfl ?_
   refine yN ?_
   dsimp only [St.put]
   refine K11 _ ?_
   refine ax ?_
   refine bf rfl (by constructor) zN zS ?_
   exact vb (by simp [uca hx hy hxy])
  have hxy := ie hc
  refine ay ?_
  refine K9 _ ?_
  refine yR ?_
  refine yM rfl rfl ?_
  refine aa rfl (bz rfl rfl rfl (by omega)) ?_
  refine yA rfl rfl ?_
  refine yN ?_
  dsimp only [St.put]
  exact ⟨k + 1, by omega, ⟨by omega, w7 hI.2 hx (hxy ▸ hy)⟩, ⟨⟨rfl, rfl⟩, zF, zB, zN, zX⟩⟩
 replace hc := of_decide_eq_false hc
 refine c7 ?_
 refine K5 _ ?_
 refine yS fun _ K12 => ?_
 refine yR ?_
 refine yA rfl rfl ?_
 refine yN ?_
 dsimp only [St.put]
 refine K12 _ ?_
 refine ax ?_
 refine bf rfl (by constructor) zN zS ?_
 exact vb (by
  have h1 := hI.2
  rw [f8 (by omega), f8 (by omega)] at h1
  simp [h1])
end Go.Proofs.YtbbdginipiljdaaGreatDoor
namespace Go.AB
open Go Go.RowKit
open Go.AB.Enc (cells)
open Go.PB (ba ai PlaceD bh bj bi bw aw ah cw br dg dl)
theorem bit_eq {s k : Nat} : (((s / 2 ^ k % 2 : Nat) : Int) = 1) ↔ s.testBit k = true := by
 rw [Nat.testBit_eq_decide_div_mod_eq, decide_eq_true_eq]
 omega
end Go.AB
namespace Go.Proofs.YtbbdginipiljdaaGreatDoor
set_option maxRecDepth 10000
open Go.RowKit Go.AB
open Go.AB.Enc (cells)
open Go.PB (ba ai PlaceD bh bj bi bw aw ah cw br dg dl)
end Go.Proofs.YtbbdginipiljdaaGreatDoor
namespace Go.AB
open Go Go.RowKit
open Go.AB.Enc (cells)
open Go.PB (ba ai PlaceD bh bj bi bw aw ah cw br dg dl)
theorem uaj {l : List aw} {g : aw → Nat} (k : Nat) : ei (l.take k) g ≤ ei l g := by
 have h : ei l g = ei (l.take k) g + ei (l.drop k) g := by
  unfold ei
  rw [← List.sum_append, ← List.map_append, List.take_append_drop]
 omega
theorem uj7 {p : ah} {b : Bool} {i : Nat} {r : bw} (h : (dv p b)[i]? = some r) : k9 p b i = r.miss := by unfold k9; rw [h]
theorem ulx (R : Nat → Int) (S : Nat → Bool) (k : Nat) : fR R S (k + 1) = fR R S k + bif S k then R k else 0 := rfl
theorem ud2 (p : ah) (C : Nat → Int) (S : Nat → Bool) (k : Nat) : fC p C S (k + 1) = fC p C S k + bif (bu p).hit S k then 0 else C k := rfl
end Go.AB
namespace Go.Proofs.YtbbdginipiljdaaGreatDoor
set_option maxRecDepth 10000
open Go.RowKit Go.AB
open Go.AB.Enc (cells)
open Go.PB (ba ai PlaceD bh bj bi bw aw ah cw br dg dl)
end Go.Proofs.YtbbdginipiljdaaGreatDoor
namespace Go.Proofs.YtbbdginipiljdaaGreatDoor
set_option maxRecDepth 10000
open Go Go.RowKit Go.AB
open Go.AB.Enc (cells)
open Go.PB (ba ai PlaceD bh bj bi bw aw ah cw br dg dl)
theorem uhl (p : ah) : Pure Tryz.prog 157 [val p] (lst p.firsts) := by
 refine c6 Tryz.func157 rfl (fun m => (ca _ _)) fun G nx => ?_
 simp only [Tryz.ntmps157, List.length_cons, List.length_nil, Nat.reduceAdd, Nat.reduceSub]
 refine cc fun hlt => ?_
 dsimp only at hlt
 refine yS fun _ K1 => ?_
 refine yR ?_
 try dsimp only [St.put]
 refine yB rfl rfl rfl ?_
 refine yA rfl rfl ?_
 refine yN ?_
 dsimp only [St.put]
 refine K1 _ ?_
 refine yS fun _ K2 => ?_
 refine yR ?_
 refine yF rfl rfl rfl rfl ?_
 refine yL rfl rfl rfl ?_
 refine yA rfl rfl ?_
 refine yN ?_
 dsimp only [St.put]
 refine K2 _ ?_
 refine ax ?_
 refine bf rfl (by constructor) zN zS ?_
 rfl
theorem uhk (x : aw) : Pure Tryz.prog 158 [val x] (.v (.int .i64 x.fst)) := by
 refine c6 Tryz.func158 rfl (fun m => .v) fun G nx => ?_
 simp only [Tryz.ntmps158, List.length_cons, List.length_nil, Nat.reduceAdd, Nat.reduceSub]
 refine cc fun hlt => ?_
 dsimp only at hlt
 refine yS fun _ K1 => ?_
 refine yR ?_
 try dsimp only [St.put]
 refine yB rfl rfl rfl ?_
 refine yA rfl rfl ?_
 refine yN ?_
 dsimp only [St.put]
 refine K1 _ ?_
 refine yS fun _ K2 => ?_
 refine yR ?_
 refine yF rfl rfl rfl rfl ?_
 refine yL rfl rfl rfl ?_
 refine yA rfl rfl ?_
 refine yN ?_
 dsimp only [St.put]
 refine K2 _ ?_
 refine ax ?_
 refine bf rfl (by constructor) zN zS ?_
 rfl
theorem uhj (x : aw) : Pure Tryz.prog 159 [val x] (lst x.found) := by
 refine c6 Tryz.func159 rfl (fun m => (ca _ _)) fun G nx => ?_
 simp only [Tryz.ntmps159, List.length_cons, List.length_nil, Nat.reduceAdd, Nat.reduceSub]
 refine cc fun hlt => ?_
 dsimp only at hlt
 refine yS fun _ K1 => ?_
 refine yR ?_
 try dsimp only [St.put]
 refine yB rfl rfl rfl ?_
 refine yA rfl rfl ?_
 refine yN ?_
 dsimp only [St.put]
 refine K1 _ ?_
 refine yS fun _ K2 => ?_
 refine yR ?_
 refine yF rfl rfl rfl rfl ?_
 refine yL rfl rfl rfl ?_
 refine yA rfl rfl ?_
 refine yN ?_
 dsimp only [St.put]
 refine K2 _ ?_
 refine ax ?_
 refine bf rfl (by constructor) zN zS ?_
 rfl
theorem uhi (p : ah) : Pure Tryz.prog 160 [val p] (lst p.seconds) := by
 refine c6 Tryz.func160 rfl (fun m => (ca _ _)) fun G nx => ?_
 simp only [Tryz.ntmps160, List.length_cons, List.length_nil, Nat.reduceAdd, Nat.reduceSub]
 refine cc fun hlt => ?_
 dsimp only at hlt
 refine yS fun _ K1 => ?_
 refine yR ?_
 try dsimp only [St.put]
 refine yB rfl rfl rfl ?_
 refine yA rfl rfl ?_
 refine yN ?_
 dsimp only [St.put]
 refine K1 _ ?_
 refine yS fun _ K2 => ?_
 refine yR ?_
 refine yF rfl rfl rfl rfl ?_
 refine yL rfl rfl rfl ?_
 refine yA rfl rfl ?_
 refine yN ?_
 dsimp only [St.put]
 refine K2 _ ?_
 refine ax ?_
 refine bf rfl (by constructor) zN zS ?_
 rfl
theorem uhh (x : aw) : Pure Tryz.prog 161 [val x] (.v (.int .i64 x.snd)) := by
 refine c6 Tryz.func161 rfl (fun m => .v) fun G nx => ?_
 simp only [Tryz.ntmps161, List.length_cons, List.length_nil, Nat.reduceAdd, Nat.reduceSub]
 refine cc fun hlt => ?_
 dsimp only at hlt
 refine yS fun _ K1 => ?_
 refine yR ?_
 try dsimp only [St.put]
 refine yB rfl rfl rfl ?_
 refine yA rfl rfl ?_
 refine yN ?_
 dsimp only [St.put]
 refine K1 _ ?_
 refine yS fun _ K2 => ?_
 refine yR ?_
 refine yF rfl rfl rfl rfl ?_
 refine yL rfl rfl rfl ?_
 refine yA rfl rfl ?_
 refine yN ?_
 dsimp only [St.put]
 refine K2 _ ?_
 refine ax ?_
 refine bf rfl (by constructor) zN zS ?_
 rfl
theorem uhg (x : aw) : Pure Tryz.prog 162 [val x] (lst x.well) := by
 refine c6 Tryz.func162 rfl (fun m => (ca _ _)) fun G nx => ?_
 simp only [Tryz.ntmps162, List.length_cons, List.length_nil, Nat.reduceAdd, Nat.reduceSub]
 refine cc fun hlt => ?_
 dsimp only at hlt
 refine yS fun _ K1 => ?_
 refine yR ?_
 try dsimp only [St.put]
 refine yB rfl rfl rfl ?_
 refine yA rfl rfl ?_
 refine yN ?_
 dsimp only [St.put]
 refine K1 _ ?_
 refine yS fun _ K2 => ?_
 refine yR ?_
 refine yF rfl rfl rfl rfl ?_
 refine yL rfl rfl rfl ?_
 refine yA rfl rfl ?_
 refine yN ?_
 dsimp only [St.put]
 refine K2 _ ?_
 refine ax ?_
 refine bf rfl (by constructor) zN zS ?_
 rfl
def sRd (b : Bool) : FuncId := bif b then 160 else 157
def sFt (b : Bool) : FuncId := bif b then 161 else 158
def sFd (b : Bool) : FuncId := bif b then 162 else 159
instance (b : Bool) : Fun Tryz.prog (sRd b) := by
 cases b
 ·exact inferInstanceAs (Fun Tryz.prog 157)
 exact inferInstanceAs (Fun Tryz.prog 160)
instance (b : Bool) : Fun Tryz.prog (sFt b) := by
 cases b
 ·exact inferInstanceAs (Fun Tryz.prog 158)
 exact inferInstanceAs (Fun Tryz.prog 161)
instance (b : Bool) : Fun Tryz.prog (sFd b) := by
 cases b
 ·exact inferInstanceAs (Fun Tryz.prog 159)
 exact inferInstanceAs (Fun Tryz.prog 162)
theorem ou (b : Bool) (p : ah) : Pure Tryz.prog (sRd b) [val p] (lst (dv p b)) := by
 cases b
 ·exact uhl p
 exact uhi p
theorem xh (b : Bool) (x : aw) : Pure Tryz.prog (sFt b) [val x] (.v (.int .i64 (eh b x))) := by
 cases b
 ·exact uhk x
 exact uhh x
theorem uaz (b : Bool) (x : aw) : Pure Tryz.prog (sFd b) [val x] (lst (dr b x)) := by
 cases b
 ·exact uhj x
 exact uhg x
abbrev nh (b : Bool) : List C := [.fn (.func (sRd b)) [], .fn (.func (sFt b)) [], .fn (.func (sFd b)) []]
abbrev sidL : List C := nh false ++ nh true
abbrev ez : GObj := .fact (.pointer (some ⟨0, 0, none⟩)) (.elem sidL)
abbrev kh (p : ah) : List C := [lst p.text, lst p.firsts, lst p.seconds, lst p.pages, lst (p.pages.map fun x => (dm p.text x : Int)), lst (p.pages.map (cr p.text)), lst (p.pages.map (dj p.text))]
theorem uh : ∀ {k : Nat}, k < 2 → (sidL.drop (k * 3)).take 3 = nh (decide (k = 1))
 | 0, _ => rfl
 | 1, _ => rfl
 | k + 2, h => by omega
set_option maxHeartbeats 1000000 in
theorem ubm (p : ah) (b : Bool) (i : Nat) (h : eg p) (hi : i < (dv p b).length) : Pure Tryz.prog 77 [.elem (kh p), .agg (nh b), .v (.int .i64 (i : Int))] (.tup [.v (.int .i64 (da p b i)), .v (.int .i64 (mz p b i))]) := by
 refine c6 Tryz.func77 rfl (fun m => .tup (co .v (co .v dn))) fun G nx => ?_
 simp only [Tryz.ntmps77, List.length_cons, List.length_nil, Nat.reduceAdd, Nat.reduceSub]
 refine cc fun hlt => ?_
 dsimp only at hlt
 have hown := ubx h b (i : Int)
 have hrd := ua9 h b (i : Int)
 have hal := nd h.text
 have hnp := h.np
 have hmb := ucj h b i
 obtain ⟨r, hr⟩ : ∃ r, (dv p b)[i]? = some r := dp hi
 have hmr := uj7 hr
 refine yS fun _ K1 => ?_
 refine yR ?_
 try dsimp only [St.put]
 refine yB rfl rfl rfl ?_
 refine yA rfl rfl ?_
 refine yA rfl rfl ?_
 refine yN ?_
 dsimp only [St.put]
 refine K1 _ ?_
 refine yS fun _ K2 => ?_
 refine yR ?_
 refine yA rfl rfl ?_
 refine yA rfl rfl ?_
 refine yN ?_
 dsimp only [St.put]
 refine K2 _ ?_
 refine yS fun _ K3 => ?_
 refine yS fun _ K4 => ?_
 refine yR ?_
 refine yM rfl rfl ?_
 refine aa rfl (k7 rfl rfl) ?_
 refine yF rfl rfl rfl rfl ?_
 refine yF rfl rfl rfl rfl ?_
 refine yL rfl rfl rfl ?_
 refine aa rfl (bp rfl rfl (List.length_map _)) ?_
 refine yM rfl rfl ?_
 refine yN ?_
 dsimp only [St.put]
 refine K4 _ ?_
 refine bg ?_
 refine ct 20 ?_
 refine zQ ?_
 refine dd (G) zX ?_
 dsimp only
 refine dc (X := Nat) (fun k => k ≤ p.pages.length) (fun k => p.pages.length - k) (fun k => [(8, .v (.int .i64 ((ei (p.pages.take k) (g5 b (i : Int)) : Nat) : Int))), (9, .v (.int .i64 ((ei (p.pages.take k) (iz p.text b (i : Int)) : Nat) : Int))), (10, .any), (11, .any), (19, .v (.int .i64 (k : Int)))]) (fun k G' => G') 0 rfl ?_ ?_ (fun _ _ h => h) ?_ ?_ ?_
 ·exact Nat.zero_le _
 ·exact zF
 ·rintro k hI
  exact zL
 ·exact fun _ _ _ _ h => .inl h
 rintro k hI
 dsimp only at hI ⊢
 refine yS fun _ K5 => ?_
 refine yR ?_
 refine aa rfl (cp rfl rfl rfl) ?_
 refine yN ?_
 dsimp only [St.put]
 refine K5 _ ?_
 refine yS fun _ K6 => ?_
 refine av rfl (fun hc => ?_) (fun hc => ?_)
 ·replace hc := of_decide_eq_true hc
  obtain ⟨x, hx⟩ : ∃ x, p.pages[k]? = some x := dp (by omega)
  have hax : (p.pages.map (cr p.text))[k]? = some (cr p.text x) := by rw [List.getElem?_map, hx]; rfl
  have hp := pageB_true.1 (h.page k x hx)
  have hfd : (dr b x).length ≤ 600 := by
   have hfl := o6 hp.found
   have hwl := o6 hp.well
   cases b
   ·show x.found.length ≤ 600
    omega
   show x.well.length ≤ 600
   omega
  have hgl := te p.text x
  have ht1 := uaj (l := p.pages) (g := g5 b (i : Int)) k
  have ht2 := uaj (l := p.pages) (g := iz p.text b (i : Int)) k
  refine ay ?_
  refine K6 _ ?_
  refine yS fun _ K7 => ?_
  refine bg ?_
  refine yS fun _ K8 => ?_
  refine yR ?_
  refine yM rfl rfl ?_
  refine aa rfl (bx rfl rfl rfl rfl (bv (by assumption)) (Enc.len _)) ?_
  refine yE rfl rfl rfl ?_
  try dsimp only [St.put]
  refine af rfl (dx rfl ?_)
  refine yA rfl rfl ?_
  try dsimp only [St.put]
  refine af rfl (dh rfl rfl rfl zG rfl rfl (by rfl) ?_)
  refine yN ?_
  dsimp only [St.put]
  refine K8 _ ?_
  refine gh (i := 11) rfl zG zC ?_
  dsimp only
  refine yS fun _ K9 => ?_
  refine yR ?_
  refine yF rfl rfl rfl rfl ?_
  refine yL rfl rfl rfl ?_
  refine yE rfl rfl rfl ?_
  try dsimp only [St.put]
  refine af rfl (bc rfl rfl rfl (xh b x) ?_)
  refine yM rfl rfl ?_
  refine aa rfl (fm rfl rfl rfl) ?_
  refine yN ?_
  dsimp only [St.put]
  refine K9 _ ?_
  refine av rfl (fun hc => ?_) (fun hc => ?_)
  ·have hyes : eh b x = (i : Int) := of_decide_eq_true hc
   refine yS fun _ K10 => ?_
   refine yR ?_
   refine yM rfl rfl ?_
   refine yF rfl rfl rfl rfl ?_
   refine yL rfl rfl rfl ?_
   refine yE rfl rfl rfl ?_
   try dsimp only [St.put]
   refine af rfl (bc rfl rfl rfl (uaz b x) ?_)
   refine aa rfl (bp rfl rfl (List.length_map _)) ?_
   refine aa rfl (bz rfl rfl rfl (by omega)) ?_
   refine yA rfl rfl ?_
   refine yN ?_
   dsimp only [St.put]
   refine K10 _ ?_
   refine yR ?_
   refine yM rfl rfl ?_
   refine yM rfl rfl ?_
   refine aa rfl (k7 rfl rfl) ?_
   refine yF rfl rfl rfl rfl ?_
   refine yL rfl rfl rfl ?_
   refine yM rfl rfl ?_
   refine aa rfl (bx rfl rfl rfl rfl (bv (by assumption)) (Enc.len _)) ?_
   refine yL rfl rfl rfl ?_
   refine aa rfl (bp rfl rfl (List.length_map _)) ?_
   refine aa rfl (bz rfl rfl rfl (by omega)) ?_
   refine yA rfl rfl ?_
   refine yN ?_
   dsimp only [St.put]
   refine K7 _ ?_
   refine yR ?_
   refine aa rfl (bz rfl rfl rfl (by omega)) ?_
   refine yM rfl rfl ?_
   refine yN ?_
   dsimp only [St.put]
   have e1 := rq (g := g5 b (i : Int)) hx
   have e2 := rq (g := iz p.text b (i : Int)) hx
   first
   | (have z : eh b x = (i : Int) := hyes
      rw [show ((ei (p.pages.take k) (g5 b (i : Int)) : Nat) : Int) + ((dr b x).length : Int) = ((ei (p.pages.take (k + 1)) (g5 b (i : Int)) : Nat) : Int) by rw [e1]; unfold g5; rw [decide_eq_true z, cond_true]; rfl, show ((ei (p.pages.take k) (iz p.text b (i : Int)) : Nat) : Int) + ((cr p.text x).length : Int) = ((ei (p.pages.take (k + 1)) (iz p.text b (i : Int)) : Nat) : Int) by rw [e2]; unfold iz; rw [decide_eq_true z, cond_true]; rfl]
      exact ⟨k + 1, by omega, by omega, ⟨⟨rfl, rfl⟩, zF, zB, zN, zX⟩⟩)
   | (have z : ¬ eh b x = (i : Int) := hno
      rw [show ei (p.pages.take k) (g5 b (i : Int)) = ei (p.pages.take (k + 1)) (g5 b (i : Int)) by rw [e1]; unfold g5; rw [decide_eq_false z]; rfl, show ei (p.pages.take k) (iz p.text b (i : Int)) = ei (p.pages.take (k + 1)) (iz p.text b (i : Int)) by rw [e2]; unfold iz; rw [decide_eq_false z]; rfl]
      exact ⟨k + 1, by omega, by omega, ⟨⟨rfl, rfl⟩, zF, zB, zN, zX⟩⟩)
  have hno : ¬ eh b x = (i : Int) := of_decide_eq_false hc
  refine ay ?_
  refine K7 _ ?_
  refine yR ?_
  refine aa rfl (bz rfl rfl rfl (by omega)) ?_
  refine yM rfl rfl ?_
  refine yN ?_
  dsimp only [St.put]
  have e1 := rq (g := g5 b (i : Int)) hx
  have e2 := rq (g := iz p.text b (i : Int)) hx
  first
  | (have z : eh b x = (i : Int) := hyes
     rw [show ((ei (p.pages.take k) (g5 b (i : Int)) : Nat) : Int) + ((dr b x).length : Int) = ((ei (p.pages.take (k + 1)) (g5 b (i : Int)) : Nat) : Int) by rw [e1]; unfold g5; rw [decide_eq_true z, cond_true]; rfl, show ((ei (p.pages.take k) (iz p.text b (i : Int)) : Nat) : Int) + ((cr p.text x).length : Int) = ((ei (p.pages.take (k + 1)) (iz p.text b (i : Int)) : Nat) : Int) by rw [e2]; unfold iz; rw [decide_eq_true z, cond_true]; rfl]
     exact ⟨k + 1, by omega, by omega, ⟨⟨rfl, rfl⟩, zF, zB, zN, zX⟩⟩)
  | (have z : ¬ eh b x = (i : Int) := hno
     rw [show ei (p.pages.take k) (g5 b (i : Int)) = ei (p.pages.take (k + 1)) (g5 b (i : Int)) by rw [e1]; unfold g5; rw [decide_eq_false z]; rfl, show ei (p.pages.take k) (iz p.text b (i : Int)) = ei (p.pages.take (k + 1)) (iz p.text b (i : Int)) by rw [e2]; unfold iz; rw [decide_eq_false z]; rfl]
     exact ⟨k + 1, by omega, by omega, ⟨⟨rfl, rfl⟩, zF, zB, zN, zX⟩⟩)
 replace hc := of_decide_eq_false hc
 obtain rfl : k = p.pages.length := by omega
 rw [f8 (Nat.le_refl p.pages.length)]
 refine c7 ?_
 refine K3 _ ?_
 refine yS fun _ K11 => ?_
 refine g7 [(0, none), (1, none), (2, none), (3, none), (4, none), (5, none), (6, none), (7, none), (9, none), (8, none), (10, none), (11, none), (12, none), (13, none), (14, none), (15, none)] (fun i => [8, 12].contains i) (fun i => [8, 12].contains i) (fun i => [0, 1, 2, 4, 5, 6, 9, 10, 11, 13, 14, 15].contains i) [] (by kernel_rfl) (by kernel_rfl) ?_
 refine xM rfl rfl rfl rfl rfl ?_
 refine ae rfl rfl rfl rfl (x9 rfl rfl rfl (by omega)) ?_
 refine ae rfl rfl rfl rfl (cx rfl rfl rfl) ?_
 try dsimp only [St.put]
 refine bd rfl rfl rfl rfl (cm rfl rfl) ?_
 refine xM rfl rfl rfl rfl rfl ?_
 refine ae rfl rfl rfl rfl (k7 rfl rfl) ?_
 refine ae rfl rfl rfl rfl (cx rfl rfl rfl) ?_
 try dsimp only [St.put]
 refine bd rfl rfl rfl rfl (c := val p) (j0 (cs := kh p) rfl rfl (show 4 ≤ 7 by decide)) ?_
 refine xM rfl rfl rfl rfl rfl ?_
 refine jo ?_
 try dsimp only [St.put]
 refine g8 rfl rfl rfl rfl (bc rfl rfl rfl (ou b p) ?_)
 try dsimp only [St.put]
 refine c8 rfl rfl rfl rfl (bx rfl rfl rfl rfl (bv (by assumption)) (Enc.len _)) ?_
 refine c8 rfl rfl rfl rfl (cx rfl rfl rfl) ?_
 try dsimp only [St.put]
 refine g8 rfl rfl rfl rfl (SStep.e' (D := fun _ => True) (cm rfl rfl) ?_)
 refine c8 rfl rfl rfl rfl (gt rfl rfl rfl (by omega)) ?_
 refine c8 rfl rfl rfl rfl (x8 rfl rfl rfl (by omega) (by omega)) ?_
 refine c8 rfl rfl rfl rfl (fp rfl (by constructor)) ?_
 refine ji ?_
 dsimp only [St.put]
 rw [show (100 * ((ei p.pages (g5 b (i : Int)) : Nat) : Int)) / (100 - r.miss) = da p b i by unfold da; rw [hmr]]
 have hbd := n7 h b i
 refine K11 _ ?_
 refine yS fun _ K12 => ?_
 refine yR ?_
 refine yM rfl rfl ?_
 refine yM rfl rfl ?_
 refine yM rfl rfl ?_
 refine aa rfl (gt rfl rfl rfl (by omega)) ?_
 refine yA rfl rfl ?_
 refine yA rfl rfl ?_
 refine yN ?_
 dsimp only [St.put]
 refine K12 _ ?_
 refine ax ?_
 refine j7 rfl (by constructor) (by constructor) zN zS ?_ ?_
 ·rfl
 exact vi (by unfold mz; rfl)
end Go.Proofs.YtbbdginipiljdaaGreatDoor
namespace Go.AB
open Go Go.RowKit
open Go.AB.Enc (cells)
open Go.PB (ba ai PlaceD bh bj bi bw aw ah cw br dg dl)
theorem uig {p : ah} (h : eg p) {j : Nat} {x : aw} (hx : p.pages[j]? = some x) {k : Nat} (hk : k < (dt p x).length) : ∃ zn : Nat, (dt p x)[k]? = some (zn : Int) ∧ zn ≤ 6 := by
 have hp := pageB_true.1 (h.page j x hx)
 have h1 := hp.fst
 have h2 := hp.snd
 have h3 := h.nf
 have h4 := h.ns
 obtain ⟨z, hz⟩ : ∃ z, (dt p x)[k]? = some z := ⟨_, List.getElem?_eq_getElem hk⟩
 have hm := List.mem_of_getElem? hz
 have hb : 0 ≤ z ∧ z ≤ 6 := by
  unfold dt at hm
  rw [List.mem_append] at hm
  rcases hm with hm | hm
  ·by_cases q : 0 ≤ x.fst
   ·rw [decide_eq_true q, cond_true, List.mem_singleton] at hm; omega
   rw [decide_eq_false q] at hm; cases hm
  by_cases q : 0 ≤ x.snd
  ·rw [decide_eq_true q, cond_true, List.mem_singleton] at hm; omega
  rw [decide_eq_false q] at hm; cases hm
 exact ⟨z.toNat, by rw [hz]; congr 1; omega, by omega⟩
theorem xn (p : ah) (x : aw) : (dt p x).length ≤ 2 := by
 unfold dt
 rw [List.length_append]
 cases decide (0 ≤ x.fst) <;> cases decide (0 ≤ x.snd) <;> simp
end Go.AB
namespace Go.Proofs.YtbbdginipiljdaaGreatDoor
set_option maxRecDepth 10000
open Go.RowKit Go.AB
open Go.AB.Enc (cells)
open Go.PB (ba ai PlaceD bh bj bi bw aw ah cw br dg dl)
end Go.Proofs.YtbbdginipiljdaaGreatDoor
namespace Go.Proofs.YtbbdginipiljdaaGreatDoor
set_option maxRecDepth 10000
open Go.RowKit Go.AB
open Go.AB.Enc (cells)
open Go.PB (ba ai PlaceD bh bj bi bw aw ah cw br dg dl)
end Go.Proofs.YtbbdginipiljdaaGreatDoor
namespace Go.AB
open Go Go.RowKit
open Go.AB.Enc (cells)
open Go.PB (ba ai PlaceD bh bj bi)
theorem lt3 {a b c a' b' c' : Int} : fh [a, b, c] [a', b', c'] < 0 ↔ a < a' ∨ a = a' ∧ (b < b' ∨ b = b' ∧ c < c') := by
 rw [m7 (a := [a, b, c]) (b := [a', b', c']) rfl]; simp [ltW]
end Go.AB
namespace Go.Proofs.YtbbdginipiljdaaGreatDoor
set_option maxRecDepth 10000
open Go.RowKit Go.AB
open Go.AB.Enc (cells)
open Go.PB (ba ai PlaceD bh bj bi)
theorem ufn (a b : PlaceD) : Pure Tryz.prog 121 [val a, val b] (.v (.bool (decide (fh (c9 a) (c9 b) < 0)))) := by
 refine c6 Tryz.func121 rfl (fun m => .v) fun G nx => ?_
 simp only [Tryz.ntmps121, List.length_cons, List.length_nil, Nat.reduceAdd, Nat.reduceSub]
 refine cc fun hlt => ?_
 dsimp only at hlt
 refine yS fun _ K1 => ?_
 refine yR ?_
 try dsimp only [St.put]
 refine yB rfl rfl rfl ?_
 try dsimp only [St.put]
 refine yB rfl rfl rfl ?_
 refine yA rfl rfl ?_
 refine yN ?_
 dsimp only [St.put]
 refine K1 _ ?_
 refine yS fun _ K2 => ?_
 refine yS fun _ K3 => ?_
 refine yR ?_
 refine yF rfl rfl rfl rfl ?_
 refine yL rfl rfl rfl ?_
 refine yF rfl rfl rfl rfl ?_
 refine yL rfl rfl rfl ?_
 refine aa rfl (fl rfl rfl rfl) ?_
 refine yN ?_
 dsimp only [St.put]
 refine K3 _ ?_
 refine av rfl (fun hc => ?_) (fun hc => ?_)
 ·have h1 : a.ch ≠ b.ch := jl hc
  refine yS fun _ K4 => ?_
  refine yR ?_
  refine yF rfl rfl rfl rfl ?_
  refine yL rfl rfl rfl ?_
  refine yF rfl rfl rfl rfl ?_
  refine yL rfl rfl rfl ?_
  refine aa rfl (cp rfl rfl rfl) ?_
  refine yA rfl rfl ?_
  refine yN ?_
  dsimp only [St.put]
  refine K4 _ ?_
  refine ax ?_
  refine bf rfl (by constructor) zN zS ?_
  exact vb (by rw [decide_eq_decide, c9, c9, lt3]; omega)
 have h1 : a.ch = b.ch := ie hc
 refine ay ?_
 refine K2 _ ?_
 refine yS fun _ K5 => ?_
 refine yS fun _ K6 => ?_
 refine yR ?_
 refine yF rfl rfl rfl rfl ?_
 refine yL rfl rfl rfl ?_
 refine yF rfl rfl rfl rfl ?_
 refine yL rfl rfl rfl ?_
 refine aa rfl (fl rfl rfl rfl) ?_
 refine yN ?_
 dsimp only [St.put]
 refine K6 _ ?_
 refine av rfl (fun hc => ?_) (fun hc => ?_)
 ·have h2 : a.ln ≠ b.ln := jl hc
  refine yS fun _ K7 => ?_
  refine yR ?_
  refine yF rfl rfl rfl rfl ?_
  refine yL rfl rfl rfl ?_
  refine yF rfl rfl rfl rfl ?_
  refine yL rfl rfl rfl ?_
  refine aa rfl (cp rfl rfl rfl) ?_
  refine yA rfl rfl ?_
  refine yN ?_
  dsimp only [St.put]
  refine K7 _ ?_
  refine ax ?_
  refine bf rfl (by constructor) zN zS ?_
  exact vb (by rw [decide_eq_decide, c9, c9, lt3]; omega)
 have h2 : a.ln = b.ln := ie hc
 refine ay ?_
 refine K5 _ ?_
 refine yS fun _ K8 => ?_
 refine yR ?_
 refine yF rfl rfl rfl rfl ?_
 refine yL rfl rfl rfl ?_
 refine yF rfl rfl rfl rfl ?_
 refine yL rfl rfl rfl ?_
 refine aa rfl (cp rfl rfl rfl) ?_
 refine yA rfl rfl ?_
 refine yN ?_
 dsimp only [St.put]
 refine K8 _ ?_
 refine ax ?_
 refine bf rfl (by constructor) zN zS ?_
 exact vb (by rw [decide_eq_decide, c9, c9, lt3]; omega)
end Go.Proofs.YtbbdginipiljdaaGreatDoor
namespace Go.Proofs.YtbbdginipiljdaaGreatDoor
set_option maxRecDepth 10000
open Go.RowKit Go.AB
open Go.AB.Enc (cells)
open Go.PB (ba ai PlaceD bh bj bi bw aw ah cw br dg dl)
set_option maxHeartbeats 1000000 in
theorem ubb (t : ai) (x : aw) (r : Int) (l : List PlaceD) (ht : dz t = true) : Pure Tryz.prog 108 [i9 t, val x, .v (.int .i64 r), lst l] (.v (.bool (ig t x r l))) := by
 refine c6 Tryz.func108 rfl (fun m => .v) fun G nx => ?_
 simp only [Tryz.ntmps108, List.length_cons, List.length_nil, Nat.reduceAdd, Nat.reduceSub]
 refine cc fun hlt => ?_
 dsimp only at hlt
 refine lh 3 (fun hfl => ?_)
 have hl0 := (fit_lst.1 hfl).1
 refine yS fun _ K1 => ?_
 refine yR ?_
 try dsimp only [St.put]
 refine yB rfl rfl rfl ?_
 try dsimp only [St.put]
 refine yB rfl rfl rfl ?_
 refine yA rfl rfl ?_
 refine yN ?_
 dsimp only [St.put]
 refine K1 _ ?_
 refine yS fun _ K2 => ?_
 refine yS fun _ K3 => ?_
 refine yR ?_
 refine yM rfl rfl ?_
 refine aa rfl (cp rfl rfl rfl) ?_
 refine ff (fun hs => ?_) (fun hs => ?_)
 ·have s1 : r < 0 := of_decide_eq_true hs
  refine yM rfl rfl ?_
  refine yM rfl rfl ?_
  refine aa rfl (bp rfl rfl (List.length_map _)) ?_
  refine aa rfl (il rfl rfl rfl) ?_
  refine aa rfl (ci rfl rfl (by constructor)) ?_
  refine yN ?_
  dsimp only [St.put]
  refine K3 _ ?_
  refine av rfl (fun hc => ?_) (fun hc => ?_)
  ·have s2 : 0 < l.length := by
    have := of_decide_eq_true hc
    omega
   refine yS fun _ K4 => ?_
   refine yR ?_
   refine yA rfl rfl ?_
   refine yN ?_
   dsimp only [St.put]
   refine K4 _ ?_
   refine ax ?_
   refine bf rfl (by constructor) zN zS ?_
   exact vb (by
    have e1 : ¬ 0 ≤ r := by omega
    have e2 : l ≠ [] := fun e => by rw [e] at s2; exact absurd s2 (by simp)
    simp [ig, e1, e2])
  have s3 : (decide (0 ≤ r) || decide (l = [])) = true := by
   first
   | (rw [decide_eq_true (show 0 ≤ r by omega)]; rfl)
   | (have := of_decide_eq_false hc
      have : l = [] := List.eq_nil_of_length_eq_zero (by omega)
      simp [this])
  refine ay ?_
  refine K2 _ ?_
  refine yS fun _ K5 => ?_
  refine yS fun _ K6 => ?_
  refine yR ?_
  refine yA rfl rfl ?_
  refine yN ?_
  dsimp only [St.put]
  refine K6 _ ?_
  refine bg ?_
  refine ct 10 ?_
  refine zQ ?_
  refine dd (G) zX ?_
  dsimp only
  refine dc (X := Nat) (fun i => i ≤ l.length ∧ dw t x l i = true) (fun i => l.length - i) (fun i => [(9, .v (.int .i64 (i : Int)))]) (fun i G' => G') 0 rfl ?_ ?_ (fun _ _ h => h) ?_ ?_ ?_
  ·exact ⟨Nat.zero_le _, rfl⟩
  ·exact zF
  ·rintro i hI
   exact zL
  ·exact fun _ _ _ _ h => .inl h
  rintro i hI
  dsimp only at hI ⊢
  refine yS fun _ K7 => ?_
  refine yS fun _ K8 => ?_
  refine yR ?_
  refine yM rfl rfl ?_
  refine yM rfl rfl ?_
  refine aa rfl (bp rfl rfl (List.length_map _)) ?_
  refine aa rfl (cp rfl rfl rfl) ?_
  refine yN ?_
  dsimp only [St.put]
  refine K8 _ ?_
  refine av rfl (fun hc => ?_) (fun hc => ?_)
  ·replace hc := of_decide_eq_true hc
   obtain ⟨q, hq⟩ : ∃ q, l[i]? = some q := dp (by omega)
   refine ay ?_
   refine K7 _ ?_
   refine yS fun _ K9 => ?_
   refine bg ?_
   refine ct 10 ?_
   refine zQ ?_
   refine kr (X := Bool) (fun d => jm t x l i = !d) (fun d => [(60, .v (.bool d))]) (fun d G' => G') rfl ?_ (fun _ _ _ _ h => .inl h) ?_ ?_
   ·rintro d hI
    exact zL
   ·refine rb [(0, none), (1, none), (2, none), (3, none), (4, none)] (fun _ => false) (fun i => [1, 2, 3].contains i) 33 (rl [5, 33]) (by kernel_rfl) (by kernel_rfl) ?_
    try dsimp only [St.put]
    refine bd rfl rfl rfl rfl (e8 rfl rfl rfl) ?_
    refine xM rfl rfl rfl rfl rfl ?_
    refine xM rfl rfl rfl rfl rfl ?_
    try dsimp only [St.put]
    refine ae rfl rfl rfl rfl (bx rfl rfl rfl rfl (bv (by assumption)) (Enc.len _)) ?_
    try dsimp only [St.put]
    refine bd rfl rfl rfl rfl (e8 rfl rfl (Enc.len _)) ?_
    refine az ?_
    refine eb [5] (by kernel_rfl) (by simp) ?_
    refine d9 ?_ ?_
    ·try dsimp only [St.put]
     refine i0 rfl rfl rfl (bc rfl rfl rfl (ufi t q ht) ?_)
     refine et [(6, none), (7, none), (8, none), (9, none), (10, none), (11, none), (12, none), (14, none), (15, none), (16, none), (17, none)] (fun i => [6, 7, 9, 10, 11, 14, 16].contains i) 21 (rl [13, 1, 4, 20]) (by kernel_rfl) ?_
     refine ae rfl rfl rfl rfl (d7 rfl rfl) ?_
     refine jy (fun hs => ?_) (fun hs => ?_)
     ·have s4 := hs
      refine xM rfl rfl rfl rfl rfl ?_
      refine aj rfl rfl rfl ?_
      refine aj rfl rfl rfl ?_
      refine aj rfl rfl rfl ?_
      refine aj rfl rfl rfl ?_
      refine aj rfl rfl rfl ?_
      refine aj rfl rfl rfl ?_
      refine aj rfl rfl rfl ?_
      refine aj rfl rfl rfl ?_
      refine aj rfl rfl rfl ?_
      refine az ?_
      refine eb [13] (by kernel_rfl) (by simp) ?_
      refine d9 ?_ ?_
      ·refine gi rfl rfl rfl ?_
       refine eb [18] (by kernel_rfl) (by simp) ?_
       refine d9 ?_ ?_
       ·refine gi rfl rfl rfl ?_
        refine et [(19, none), (20, none), (21, none), (22, none), (23, none), (24, none), (25, none), (26, none), (27, none), (28, none), (29, none), (30, none), (31, none), (32, none), (33, none)] (fun i => [19, 20, 21, 22, 23, 24, 25, 26, 27, 28, 30, 31, 32].contains i) 4 (rl [34, 4]) (by kernel_rfl) ?_
        refine aj rfl rfl rfl ?_
        refine ae rfl rfl rfl rfl (ci rfl rfl (by constructor)) ?_
        refine xM rfl rfl rfl rfl rfl ?_
        refine aj rfl rfl rfl ?_
        refine aj rfl rfl rfl ?_
        refine aj rfl rfl rfl ?_
        refine aj rfl rfl rfl ?_
        refine aj rfl rfl rfl ?_
        refine aj rfl rfl rfl ?_
        refine aj rfl rfl rfl ?_
        refine aj rfl rfl rfl ?_
        refine aj rfl rfl rfl ?_
        refine aj rfl rfl rfl ?_
        refine aj rfl rfl rfl ?_
        refine aj rfl rfl rfl ?_
        refine az ?_
        refine eb [34] (by kernel_rfl) (by simp) ?_
        refine d9 ?_ ?_
        ·refine gi rfl rfl rfl ?_
         refine et [(35, none), (36, none), (37, none)] (fun i => [35, 36, 37].contains i) 0 (rl [38]) (by kernel_rfl) ?_
         refine aj rfl rfl rfl ?_
         refine aj rfl rfl rfl ?_
         refine ae rfl rfl rfl rfl (ci rfl rfl (by constructor)) ?_
         refine az ?_
         dsimp only [St.put]
         refine ix (by kernel_rfl) ?_
         refine ⟨_, ?_, ⟨⟨rfl, rfl⟩, zF, zB, zN, zX⟩⟩
         simp_all [jm, ib, mj]
         try (intro h0; omega)
        exact d8
       exact d8
      exact d8
     have hqp : fw t q = true := by simpa using hs
     refine xM rfl rfl rfl rfl rfl ?_
     try dsimp only [St.put]
     refine bd rfl rfl rfl rfl (e8 rfl rfl rfl) ?_
     refine xM rfl rfl rfl rfl rfl ?_
     refine xM rfl rfl rfl rfl rfl ?_
     try dsimp only [St.put]
     refine ae rfl rfl rfl rfl (bx rfl rfl rfl rfl (bv (by assumption)) (Enc.len _)) ?_
     try dsimp only [St.put]
     refine bd rfl rfl rfl rfl (e8 rfl rfl (Enc.len _)) ?_
     refine ae rfl rfl rfl rfl (cx rfl rfl rfl) ?_
     try dsimp only [St.put]
     refine bd rfl rfl rfl rfl (cm rfl rfl) ?_
     refine ae rfl rfl rfl rfl (cx rfl rfl rfl) ?_
     try dsimp only [St.put]
     refine bd rfl rfl rfl rfl (cm rfl rfl) ?_
     refine az ?_
     refine eb [13] (by kernel_rfl) (by simp) ?_
     refine d9 ?_ ?_
     ·try dsimp only [St.put]
      refine i0 rfl rfl rfl (bc rfl rfl rfl (ubd t q ht hqp) ?_)
      refine eb [18] (by kernel_rfl) (by simp) ?_
      refine d9 ?_ ?_
      ·try dsimp only [St.put]
       refine i0 rfl rfl rfl (bc rfl rfl rfl (qg _ _ _) ?_)
       refine et [(19, none), (20, none), (21, none), (22, none), (23, none), (24, none), (25, none), (26, none), (27, none), (28, none), (29, none), (30, none), (31, none), (32, none), (33, none)] (fun i => [19, 20, 21, 22, 23, 24, 25, 26, 27, 28, 30, 31, 32].contains i) 4 (rl [34, 4]) (by kernel_rfl) ?_
       refine ae rfl rfl rfl rfl (d7 rfl rfl) ?_
       refine jy (fun hs => ?_) (fun hs => ?_)
       ·have s5 := hs
        refine ae rfl rfl rfl rfl (c5 rfl rfl (by constructor)) ?_
        refine xM rfl rfl rfl rfl rfl ?_
        refine aj rfl rfl rfl ?_
        refine aj rfl rfl rfl ?_
        refine aj rfl rfl rfl ?_
        refine aj rfl rfl rfl ?_
        refine aj rfl rfl rfl ?_
        refine aj rfl rfl rfl ?_
        refine aj rfl rfl rfl ?_
        refine aj rfl rfl rfl ?_
        refine aj rfl rfl rfl ?_
        refine aj rfl rfl rfl ?_
        refine aj rfl rfl rfl ?_
        refine aj rfl rfl rfl ?_
        refine az ?_
        refine eb [34] (by kernel_rfl) (by simp) ?_
        refine d9 ?_ ?_
        ·refine gi rfl rfl rfl ?_
         refine et [(35, none), (36, none), (37, none)] (fun i => [35, 36, 37].contains i) 0 (rl [38]) (by kernel_rfl) ?_
         refine aj rfl rfl rfl ?_
         refine aj rfl rfl rfl ?_
         refine ae rfl rfl rfl rfl (ci rfl rfl (by constructor)) ?_
         refine az ?_
         dsimp only [St.put]
         refine ix (by kernel_rfl) ?_
         refine ⟨_, ?_, ⟨⟨rfl, rfl⟩, zF, zB, zN, zX⟩⟩
         simp_all [jm, ib, mj]
         try (intro h0; omega)
        exact d8
       have s5 := hs
       refine ae rfl rfl rfl rfl (c5 rfl rfl (by constructor)) ?_
       refine xM rfl rfl rfl rfl rfl ?_
       refine xM rfl rfl rfl rfl rfl ?_
       refine ae rfl rfl rfl rfl (il rfl rfl rfl) ?_
       refine jy (fun hs => ?_) (fun hs => ?_)
       ·have s6 : 0 < i := by
         have := of_decide_eq_true hs
         omega
        obtain ⟨q0, hq0⟩ : ∃ q0, l[i - 1]? = some q0 := dp (by omega)
        refine xM rfl rfl rfl rfl rfl ?_
        refine xM rfl rfl rfl rfl rfl ?_
        refine xM rfl rfl rfl rfl rfl ?_
        refine ae rfl rfl rfl rfl (gt rfl rfl rfl (by omega)) ?_
        try dsimp only [St.put]
        refine ae rfl rfl rfl rfl (bx (k := i - 1) rfl rfl rfl (by omega) (bv hq0) (Enc.len _)) ?_
        try dsimp only [St.put]
        refine bd rfl rfl rfl rfl (e8 rfl rfl (Enc.len _)) ?_
        refine xM rfl rfl rfl rfl rfl ?_
        refine xM rfl rfl rfl rfl rfl ?_
        try dsimp only [St.put]
        refine ae rfl rfl rfl rfl (bx rfl rfl rfl rfl (bv (by assumption)) (Enc.len _)) ?_
        try dsimp only [St.put]
        refine bd rfl rfl rfl rfl (e8 rfl rfl (Enc.len _)) ?_
        refine az ?_
        refine eb [34] (by kernel_rfl) (by simp) ?_
        refine d9 ?_ ?_
        ·try dsimp only [St.put]
         refine i0 rfl rfl rfl (bc rfl rfl rfl (ufn q0 q) ?_)
         refine et [(35, none), (36, none), (37, none)] (fun i => [35, 36, 37].contains i) 0 (rl [38]) (by kernel_rfl) ?_
         refine ae rfl rfl rfl rfl (d7 rfl rfl) ?_
         refine ae rfl rfl rfl rfl (ci rfl rfl (by constructor)) ?_
         refine ae rfl rfl rfl rfl (c5 rfl rfl (by constructor)) ?_
         refine az ?_
         dsimp only [St.put]
         refine ix (by kernel_rfl) ?_
         refine ⟨_, ?_, ⟨⟨rfl, rfl⟩, zF, zB, zN, zX⟩⟩
         simp_all [jm, ib, mj]
         try (intro h0; omega)
        exact d8
       have s6 : i = 0 := by
        have := of_decide_eq_false hs
        omega
       refine xM rfl rfl rfl rfl rfl ?_
       refine aj rfl rfl rfl ?_
       refine aj rfl rfl rfl ?_
       refine aj rfl rfl rfl ?_
       refine aj rfl rfl rfl ?_
       refine aj rfl rfl rfl ?_
       refine aj rfl rfl rfl ?_
       refine aj rfl rfl rfl ?_
       refine aj rfl rfl rfl ?_
       refine aj rfl rfl rfl ?_
       refine az ?_
       refine eb [34] (by kernel_rfl) (by simp) ?_
       refine d9 ?_ ?_
       ·refine gi rfl rfl rfl ?_
        refine et [(35, none), (36, none), (37, none)] (fun i => [35, 36, 37].contains i) 0 (rl [38]) (by kernel_rfl) ?_
        refine aj rfl rfl rfl ?_
        refine ae rfl rfl rfl rfl (c5 rfl rfl (by constructor)) ?_
        refine ae rfl rfl rfl rfl (c5 rfl rfl (by constructor)) ?_
        refine az ?_
        dsimp only [St.put]
        refine ix (by kernel_rfl) ?_
        refine ⟨_, ?_, ⟨⟨rfl, rfl⟩, zF, zB, zN, zX⟩⟩
        simp_all [jm, ib, mj]
        try (intro h0; omega)
       exact d8
      exact d8
     exact d8
    exact d8
   rintro d hst
   dsimp only at hst ⊢
   refine av rfl (fun hc => ?_) (fun hc => ?_)
   ·skip
    refine yS fun _ K11 => ?_
    refine yR ?_
    refine yA rfl rfl ?_
    refine yN ?_
    dsimp only [St.put]
    refine K11 _ ?_
    refine ax ?_
    refine bf rfl (by constructor) zN zS ?_
    exact vb (by
     have e : jm t x l i = false := by rw [hst, hc]; rfl
     have : dw t x l l.length = false := by
      refine List.all_eq_false.2 ⟨i, List.mem_range.2 (by omega), by rw [e]; simp⟩
     simp [ig, this])
   skip
   refine ay ?_
   refine K9 _ ?_
   refine yR ?_
   refine yM rfl rfl ?_
   refine aa rfl (bz rfl rfl rfl (by omega)) ?_
   refine yA rfl rfl ?_
   refine yN ?_
   dsimp only [St.put]
   exact ⟨i + 1, by omega, ⟨by omega, by rw [g6, hI.2, hst, hc]; rfl⟩, ⟨⟨rfl, rfl⟩, zF, zB, zN, zX⟩⟩
  replace hc := of_decide_eq_false hc
  obtain rfl : i = l.length := by omega
  refine c7 ?_
  refine K5 _ ?_
  refine yS fun _ K12 => ?_
  refine yR ?_
  refine yA rfl rfl ?_
  refine yN ?_
  dsimp only [St.put]
  refine K12 _ ?_
  refine ax ?_
  refine bf rfl (by constructor) zN zS ?_
  exact vb (by
   unfold ig
   rw [hI.2, Bool.and_true]
   first
   | exact s3.symm
   | (have e1 : 0 ≤ r := by omega
      simp [e1]))
 have s1 : ¬ r < 0 := of_decide_eq_false hs
 refine yM rfl rfl ?_
 refine yK rfl ?_
 refine yK rfl ?_
 refine yK rfl ?_
 refine aa rfl (c5 rfl rfl (by constructor)) ?_
 refine yN ?_
 dsimp only [St.put]
 refine K3 _ ?_
 refine av rfl (fun h => by cases h) (fun _ => ?_)
 have s3 : (decide (0 ≤ r) || decide (l = [])) = true := by
  first
  | (rw [decide_eq_true (show 0 ≤ r by omega)]; rfl)
  | (have := of_decide_eq_false hc
     have : l = [] := List.eq_nil_of_length_eq_zero (by omega)
     simp [this])
 refine ay ?_
 refine K2 _ ?_
 refine yS fun _ K13 => ?_
 refine yS fun _ K14 => ?_
 refine yR ?_
 refine yA rfl rfl ?_
 refine yN ?_
 dsimp only [St.put]
 refine K14 _ ?_
 refine bg ?_
 refine ct 10 ?_
 refine zQ ?_
 refine dd (G) zX ?_
 dsimp only
 refine dc (X := Nat) (fun i => i ≤ l.length ∧ dw t x l i = true) (fun i => l.length - i) (fun i => [(9, .v (.int .i64 (i : Int)))]) (fun i G' => G') 0 rfl ?_ ?_ (fun _ _ h => h) ?_ ?_ ?_
 ·exact ⟨Nat.zero_le _, rfl⟩
 ·exact zF
 ·rintro i hI
  exact zL
 ·exact fun _ _ _ _ h => .inl h
 rintro i hI
 dsimp only at hI ⊢
 refine yS fun _ K15 => ?_
 refine yS fun _ K16 => ?_
 refine yR ?_
 refine yM rfl rfl ?_
 refine yM rfl rfl ?_
 refine aa rfl (bp rfl rfl (List.length_map _)) ?_
 refine aa rfl (cp rfl rfl rfl) ?_
 refine yN ?_
 dsimp only [St.put]
 refine K16 _ ?_
 refine av rfl (fun hc => ?_) (fun hc => ?_)
 ·replace hc := of_decide_eq_true hc
  obtain ⟨q, hq⟩ : ∃ q, l[i]? = some q := dp (by omega)
  refine ay ?_
  refine K15 _ ?_
  refine yS fun _ K17 => ?_
  refine bg ?_
  refine ct 10 ?_
  refine zQ ?_
  refine kr (X := Bool) (fun d => jm t x l i = !d) (fun d => [(60, .v (.bool d))]) (fun d G' => G') rfl ?_ (fun _ _ _ _ h => .inl h) ?_ ?_
  ·rintro d hI
   exact zL
  ·refine rb [(0, none), (1, none), (2, none), (3, none), (4, none)] (fun _ => false) (fun i => [1, 2, 3].contains i) 33 (rl [5, 33]) (by kernel_rfl) (by kernel_rfl) ?_
   try dsimp only [St.put]
   refine bd rfl rfl rfl rfl (e8 rfl rfl rfl) ?_
   refine xM rfl rfl rfl rfl rfl ?_
   refine xM rfl rfl rfl rfl rfl ?_
   try dsimp only [St.put]
   refine ae rfl rfl rfl rfl (bx rfl rfl rfl rfl (bv (by assumption)) (Enc.len _)) ?_
   try dsimp only [St.put]
   refine bd rfl rfl rfl rfl (e8 rfl rfl (Enc.len _)) ?_
   refine az ?_
   refine eb [5] (by kernel_rfl) (by simp) ?_
   refine d9 ?_ ?_
   ·try dsimp only [St.put]
    refine i0 rfl rfl rfl (bc rfl rfl rfl (ufi t q ht) ?_)
    refine et [(6, none), (7, none), (8, none), (9, none), (10, none), (11, none), (12, none), (14, none), (15, none), (16, none), (17, none)] (fun i => [6, 7, 9, 10, 11, 14, 16].contains i) 21 (rl [13, 1, 4, 20]) (by kernel_rfl) ?_
    refine ae rfl rfl rfl rfl (d7 rfl rfl) ?_
    refine jy (fun hs => ?_) (fun hs => ?_)
    ·have s4 := hs
     refine xM rfl rfl rfl rfl rfl ?_
     refine aj rfl rfl rfl ?_
     refine aj rfl rfl rfl ?_
     refine aj rfl rfl rfl ?_
     refine aj rfl rfl rfl ?_
     refine aj rfl rfl rfl ?_
     refine aj rfl rfl rfl ?_
     refine aj rfl rfl rfl ?_
     refine aj rfl rfl rfl ?_
     refine aj rfl rfl rfl ?_
     refine az ?_
     refine eb [13] (by kernel_rfl) (by simp) ?_
     refine d9 ?_ ?_
     ·refine gi rfl rfl rfl ?_
      refine eb [18] (by kernel_rfl) (by simp) ?_
      refine d9 ?_ ?_
      ·refine gi rfl rfl rfl ?_
       refine et [(19, none), (20, none), (21, none), (22, none), (23, none), (24, none), (25, none), (26, none), (27, none), (28, none), (29, none), (30, none), (31, none), (32, none), (33, none)] (fun i => [19, 20, 21, 22, 23, 24, 25, 26, 27, 28, 30, 31, 32].contains i) 4 (rl [34, 4]) (by kernel_rfl) ?_
       refine aj rfl rfl rfl ?_
       refine ae rfl rfl rfl rfl (ci rfl rfl (by constructor)) ?_
       refine xM rfl rfl rfl rfl rfl ?_
       refine aj rfl rfl rfl ?_
       refine aj rfl rfl rfl ?_
       refine aj rfl rfl rfl ?_
       refine aj rfl rfl rfl ?_
       refine aj rfl rfl rfl ?_
       refine aj rfl rfl rfl ?_
       refine aj rfl rfl rfl ?_
       refine aj rfl rfl rfl ?_
       refine aj rfl rfl rfl ?_
       refine aj rfl rfl rfl ?_
       refine aj rfl rfl rfl ?_
       refine aj rfl rfl rfl ?_
       refine az ?_
       refine eb [34] (by kernel_rfl) (by simp) ?_
       refine d9 ?_ ?_
       ·refine gi rfl rfl rfl ?_
        refine et [(35, none), (36, none), (37, none)] (fun i => [35, 36, 37].contains i) 0 (rl [38]) (by kernel_rfl) ?_
        refine aj rfl rfl rfl ?_
        refine aj rfl rfl rfl ?_
        refine ae rfl rfl rfl rfl (ci rfl rfl (by constructor)) ?_
        refine az ?_
        dsimp only [St.put]
        refine ix (by kernel_rfl) ?_
        refine ⟨_, ?_, ⟨⟨rfl, rfl⟩, zF, zB, zN, zX⟩⟩
        simp_all [jm, ib, mj]
        try (intro h0; omega)
       exact d8
      exact d8
     exact d8
    have hqp : fw t q = true := by simpa using hs
    refine xM rfl rfl rfl rfl rfl ?_
    try dsimp only [St.put]
    refine bd rfl rfl rfl rfl (e8 rfl rfl rfl) ?_
    refine xM rfl rfl rfl rfl rfl ?_
    refine xM rfl rfl rfl rfl rfl ?_
    try dsimp only [St.put]
    refine ae rfl rfl rfl rfl (bx rfl rfl rfl rfl (bv (by assumption)) (Enc.len _)) ?_
    try dsimp only [St.put]
    refine bd rfl rfl rfl rfl (e8 rfl rfl (Enc.len _)) ?_
    refine ae rfl rfl rfl rfl (cx rfl rfl rfl) ?_
    try dsimp only [St.put]
    refine bd rfl rfl rfl rfl (cm rfl rfl) ?_
    refine ae rfl rfl rfl rfl (cx rfl rfl rfl) ?_
    try dsimp only [St.put]
    refine bd rfl rfl rfl rfl (cm rfl rfl) ?_
    refine az ?_
    refine eb [13] (by kernel_rfl) (by simp) ?_
    refine d9 ?_ ?_
    ·try dsimp only [St.put]
     refine i0 rfl rfl rfl (bc rfl rfl rfl (ubd t q ht hqp) ?_)
     refine eb [18] (by kernel_rfl) (by simp) ?_
     refine d9 ?_ ?_
     ·try dsimp only [St.put]
      refine i0 rfl rfl rfl (bc rfl rfl rfl (qg _ _ _) ?_)
      refine et [(19, none), (20, none), (21, none), (22, none), (23, none), (24, none), (25, none), (26, none), (27, none), (28, none), (29, none), (30, none), (31, none), (32, none), (33, none)] (fun i => [19, 20, 21, 22, 23, 24, 25, 26, 27, 28, 30, 31, 32].contains i) 4 (rl [34, 4]) (by kernel_rfl) ?_
      refine ae rfl rfl rfl rfl (d7 rfl rfl) ?_
      refine jy (fun hs => ?_) (fun hs => ?_)
      ·have s5 := hs
       refine ae rfl rfl rfl rfl (c5 rfl rfl (by constructor)) ?_
       refine xM rfl rfl rfl rfl rfl ?_
       refine aj rfl rfl rfl ?_
       refine aj rfl rfl rfl ?_
       refine aj rfl rfl rfl ?_
       refine aj rfl rfl rfl ?_
       refine aj rfl rfl rfl ?_
       refine aj rfl rfl rfl ?_
       refine aj rfl rfl rfl ?_
       refine aj rfl rfl rfl ?_
       refine aj rfl rfl rfl ?_
       refine aj rfl rfl rfl ?_
       refine aj rfl rfl rfl ?_
       refine aj rfl rfl rfl ?_
       refine az ?_
       refine eb [34] (by kernel_rfl) (by simp) ?_
       refine d9 ?_ ?_
       ·refine gi rfl rfl rfl ?_
        refine et [(35, none), (36, none), (37, none)] (fun i => [35, 36, 37].contains i) 0 (rl [38]) (by kernel_rfl) ?_
        refine aj rfl rfl rfl ?_
        refine aj rfl rfl rfl ?_
        refine ae rfl rfl rfl rfl (ci rfl rfl (by constructor)) ?_
        refine az ?_
        dsimp only [St.put]
        refine ix (by kernel_rfl) ?_
        refine ⟨_, ?_, ⟨⟨rfl, rfl⟩, zF, zB, zN, zX⟩⟩
        simp_all [jm, ib, mj]
        try (intro h0; omega)
       exact d8
      have s5 := hs
      refine ae rfl rfl rfl rfl (c5 rfl rfl (by constructor)) ?_
      refine xM rfl rfl rfl rfl rfl ?_
      refine xM rfl rfl rfl rfl rfl ?_
      refine ae rfl rfl rfl rfl (il rfl rfl rfl) ?_
      refine jy (fun hs => ?_) (fun hs => ?_)
      ·have s6 : 0 < i := by
        have := of_decide_eq_true hs
        omega
       obtain ⟨q0, hq0⟩ : ∃ q0, l[i - 1]? = some q0 := dp (by omega)
       refine xM rfl rfl rfl rfl rfl ?_
       refine xM rfl rfl rfl rfl rfl ?_
       refine xM rfl rfl rfl rfl rfl ?_
       refine ae rfl rfl rfl rfl (gt rfl rfl rfl (by omega)) ?_
       try dsimp only [St.put]
       refine ae rfl rfl rfl rfl (bx (k := i - 1) rfl rfl rfl (by omega) (bv hq0) (Enc.len _)) ?_
       try dsimp only [St.put]
       refine bd rfl rfl rfl rfl (e8 rfl rfl (Enc.len _)) ?_
       refine xM rfl rfl rfl rfl rfl ?_
       refine xM rfl rfl rfl rfl rfl ?_
       try dsimp only [St.put]
       refine ae rfl rfl rfl rfl (bx rfl rfl rfl rfl (bv (by assumption)) (Enc.len _)) ?_
       try dsimp only [St.put]
       refine bd rfl rfl rfl rfl (e8 rfl rfl (Enc.len _)) ?_
       refine az ?_
       refine eb [34] (by kernel_rfl) (by simp) ?_
       refine d9 ?_ ?_
       ·try dsimp only [St.put]
        refine i0 rfl rfl rfl (bc rfl rfl rfl (ufn q0 q) ?_)
        refine et [(35, none), (36, none), (37, none)] (fun i => [35, 36, 37].contains i) 0 (rl [38]) (by kernel_rfl) ?_
        refine ae rfl rfl rfl rfl (d7 rfl rfl) ?_
        refine ae rfl rfl rfl rfl (ci rfl rfl (by constructor)) ?_
        refine ae rfl rfl rfl rfl (c5 rfl rfl (by constructor)) ?_
        refine az ?_
        dsimp only [St.put]
        refine ix (by kernel_rfl) ?_
        refine ⟨_, ?_, ⟨⟨rfl, rfl⟩, zF, zB, zN, zX⟩⟩
        simp_all [jm, ib, mj]
        try (intro h0; omega)
       exact d8
      have s6 : i = 0 := by
       have := of_decide_eq_false hs
       omega
      refine xM rfl rfl rfl rfl rfl ?_
      refine aj rfl rfl rfl ?_
      refine aj rfl rfl rfl ?_
      refine aj rfl rfl rfl ?_
      refine aj rfl rfl rfl ?_
      refine aj rfl rfl rfl ?_
      refine aj rfl rfl rfl ?_
      refine aj rfl rfl rfl ?_
      refine aj rfl rfl rfl ?_
      refine aj rfl rfl rfl ?_
      refine az ?_
      refine eb [34] (by kernel_rfl) (by simp) ?_
      refine d9 ?_ ?_
      ·refine gi rfl rfl rfl ?_
       refine et [(35, none), (36, none), (37, none)] (fun i => [35, 36, 37].contains i) 0 (rl [38]) (by kernel_rfl) ?_
       refine aj rfl rfl rfl ?_
       refine ae rfl rfl rfl rfl (c5 rfl rfl (by constructor)) ?_
       refine ae rfl rfl rfl rfl (c5 rfl rfl (by constructor)) ?_
       refine az ?_
       dsimp only [St.put]
       refine ix (by kernel_rfl) ?_
       refine ⟨_, ?_, ⟨⟨rfl, rfl⟩, zF, zB, zN, zX⟩⟩
       simp_all [jm, ib, mj]
       try (intro h0; omega)
      exact d8
     exact d8
    exact d8
   exact d8
  rintro d hst
  dsimp only at hst ⊢
  refine av rfl (fun hc => ?_) (fun hc => ?_)
  ·skip
   refine yS fun _ K19 => ?_
   refine yR ?_
   refine yA rfl rfl ?_
   refine yN ?_
   dsimp only [St.put]
   refine K19 _ ?_
   refine ax ?_
   refine bf rfl (by constructor) zN zS ?_
   exact vb (by
    have e : jm t x l i = false := by rw [hst, hc]; rfl
    have : dw t x l l.length = false := by
     refine List.all_eq_false.2 ⟨i, List.mem_range.2 (by omega), by rw [e]; simp⟩
    simp [ig, this])
  skip
  refine ay ?_
  refine K17 _ ?_
  refine yR ?_
  refine yM rfl rfl ?_
  refine aa rfl (bz rfl rfl rfl (by omega)) ?_
  refine yA rfl rfl ?_
  refine yN ?_
  dsimp only [St.put]
  exact ⟨i + 1, by omega, ⟨by omega, by rw [g6, hI.2, hst, hc]; rfl⟩, ⟨⟨rfl, rfl⟩, zF, zB, zN, zX⟩⟩
 replace hc := of_decide_eq_false hc
 obtain rfl : i = l.length := by omega
 refine c7 ?_
 refine K13 _ ?_
 refine yS fun _ K20 => ?_
 refine yR ?_
 refine yA rfl rfl ?_
 refine yN ?_
 dsimp only [St.put]
 refine K20 _ ?_
 refine ax ?_
 refine bf rfl (by constructor) zN zS ?_
 exact vb (by
  unfold ig
  rw [hI.2, Bool.and_true]
  first
  | exact s3.symm
  | (have e1 : 0 ≤ r := by omega
     simp [e1]))
end Go.Proofs.YtbbdginipiljdaaGreatDoor
namespace Go.AB
open Go Go.RowKit
open Go.AB.Enc (cells)
open Go.PB (ba ai PlaceD bh bj bi bw aw ah cw br dg dl)
def l9 (p : ah) (last : Int) (x : aw) : Bool := decide (last < x.fr) && decide (x.fr ≤ x.to) && decide (x.to < (l8 p.text : Int)) && inB x.fst (-1) ((p.firsts.length : Int) - 1) && inB x.snd (-1) ((p.seconds.length : Int) - 1)
theorem uq (p : ah) (last : Int) (x : aw) : ll p last x = (l9 p last x && (ig p.text x x.fst x.found && ig p.text x x.snd x.well)) := by
 unfold ll l9
 cases decide (last < x.fr) <;> cases decide (x.fr ≤ x.to) <;> cases decide (x.to < (l8 p.text : Int)) <;> cases inB x.fst (-1) ((p.firsts.length : Int) - 1) <;> cases inB x.snd (-1) ((p.seconds.length : Int) - 1) <;> simp
theorem xo {p : ah} {j : Nat} {x : aw} (h : p.pages[j]? = some x) : r7 p j = ll p (im p.pages j) x := by unfold r7; rw [h]
theorem uc4 {l : List aw} {j : Nat} {x : aw} (h : l[j]? = some x) : im l (j + 1) = x.to := by simp only [im, h]
theorem uo {p : ah} {j : Nat} {x : aw} (h : p.pages[j]? = some x) (hb : ll p (im p.pages j) x = false) : gg p = false := by
 have : pm p p.pages.length = false := List.all_eq_false.2 ⟨j, List.mem_range.2 (List.getElem?_eq_some_iff.1 h).1, by rw [xo h, hb]; simp⟩
 simp [gg, this]
end Go.AB
namespace Go.Proofs.YtbbdginipiljdaaGreatDoor
set_option maxRecDepth 10000
open Go.RowKit Go.AB
open Go.AB.Enc (cells)
open Go.PB (ba ai PlaceD bh bj bi bw aw ah cw br dg dl)
set_option maxHeartbeats 2000000 in
theorem uin (p : ah) (ht : dz p.text = true) : Pure Tryz.prog 87 [val p] (.v (.bool (gg p))) := by
 refine c6 Tryz.func87 rfl (fun m => .v) fun G nx => ?_
 simp only [Tryz.ntmps87, List.length_cons, List.length_nil, Nat.reduceAdd, Nat.reduceSub]
 refine cc fun hlt => ?_
 dsimp only at hlt
 refine yS fun _ K1 => ?_
 refine yR ?_
 try dsimp only [St.put]
 refine yB rfl rfl rfl ?_
 refine yA rfl rfl ?_
 refine yN ?_
 dsimp only [St.put]
 refine K1 _ ?_
 refine yS fun _ K2 => ?_
 refine yS fun _ K3 => ?_
 refine yR ?_
 refine yF rfl rfl rfl rfl ?_
 refine yL rfl rfl rfl ?_
 refine aa rfl (bp rfl rfl (List.length_map _)) ?_
 refine aa rfl (il rfl rfl rfl) ?_
 refine ff (fun hs => ?_) (fun hs => ?_)
 ·have s1 : ¬ p.firsts.length ≤ 3 := by
   have := of_decide_eq_true hs
   omega
  refine yM rfl rfl ?_
  refine yK rfl ?_
  refine yK rfl ?_
  refine yK rfl ?_
  refine yK rfl ?_
  refine aa rfl (ci rfl rfl (by constructor)) ?_
  refine yM rfl rfl ?_
  refine yK rfl ?_
  refine yK rfl ?_
  refine yK rfl ?_
  refine yK rfl ?_
  refine aa rfl (ci rfl rfl (by constructor)) ?_
  refine yN ?_
  dsimp only [St.put]
  refine K3 _ ?_
  refine av rfl (fun _ => ?_) (fun h => by cases h)
  refine yS fun _ K4 => ?_
  refine yR ?_
  refine yA rfl rfl ?_
  refine yN ?_
  dsimp only [St.put]
  refine K4 _ ?_
  refine ax ?_
  refine bf rfl (by constructor) zN zS ?_
  exact vb (by first | (simp [gg, jt, s1]; done) | (simp [gg, jt, s2]; done) | (simp [gg, s3]; done))
 have s1 : p.firsts.length ≤ 3 := by
  have := of_decide_eq_false hs
  omega
 refine yM rfl rfl ?_
 refine yF rfl rfl rfl rfl ?_
 refine yL rfl rfl rfl ?_
 refine aa rfl (bp rfl rfl (List.length_map _)) ?_
 refine aa rfl (il rfl rfl rfl) ?_
 refine ff (fun hs => ?_) (fun hs => ?_)
 ·have s2 : ¬ p.seconds.length ≤ 3 := by
   have := of_decide_eq_true hs
   omega
  refine aa rfl (c5 rfl rfl (by constructor)) ?_
  refine yM rfl rfl ?_
  refine yK rfl ?_
  refine yK rfl ?_
  refine yK rfl ?_
  refine yK rfl ?_
  refine aa rfl (ci rfl rfl (by constructor)) ?_
  refine yN ?_
  dsimp only [St.put]
  refine K3 _ ?_
  refine av rfl (fun _ => ?_) (fun h => by cases h)
  refine yS fun _ K5 => ?_
  refine yR ?_
  refine yA rfl rfl ?_
  refine yN ?_
  dsimp only [St.put]
  refine K5 _ ?_
  refine ax ?_
  refine bf rfl (by constructor) zN zS ?_
  exact vb (by first | (simp [gg, jt, s1]; done) | (simp [gg, jt, s2]; done) | (simp [gg, s3]; done))
 have s2 : p.seconds.length ≤ 3 := by
  have := of_decide_eq_false hs
  omega
 refine aa rfl (c5 rfl rfl (by constructor)) ?_
 refine yM rfl rfl ?_
 refine yF rfl rfl rfl rfl ?_
 refine yL rfl rfl rfl ?_
 refine aa rfl (bp rfl rfl (List.length_map _)) ?_
 refine aa rfl (il rfl rfl rfl) ?_
 refine ff (fun hs => ?_) (fun hs => ?_)
 ·have s3 : ¬ p.pages.length ≤ 8 := by
   have := of_decide_eq_true hs
   omega
  refine aa rfl (c5 rfl rfl (by constructor)) ?_
  refine yN ?_
  dsimp only [St.put]
  refine K3 _ ?_
  refine av rfl (fun _ => ?_) (fun h => by cases h)
  refine yS fun _ K6 => ?_
  refine yR ?_
  refine yA rfl rfl ?_
  refine yN ?_
  dsimp only [St.put]
  refine K6 _ ?_
  refine ax ?_
  refine bf rfl (by constructor) zN zS ?_
  exact vb (by first | (simp [gg, jt, s1]; done) | (simp [gg, jt, s2]; done) | (simp [gg, s3]; done))
 have s3 : p.pages.length ≤ 8 := by
  have := of_decide_eq_false hs
  omega
 obtain ⟨A, hA⟩ : ∃ A, p.firsts ++ p.seconds = A := ⟨_, rfl⟩
 have hAl : A.length ≤ 6 := by rw [← hA, List.length_append]; omega
 refine aa rfl (c5 rfl rfl (by constructor)) ?_
 refine yN ?_
 dsimp only [St.put]
 refine K3 _ ?_
 refine av rfl (fun h => by cases h) (fun _ => ?_)
 refine ay ?_
 refine K2 _ ?_
 refine yS fun _ K7 => ?_
 refine yR ?_
 refine yA rfl rfl ?_
 refine yN ?_
 dsimp only [St.put]
 refine K7 _ ?_
 refine ue7 3 67 2 rfl (by decide) ?_
 refine yS fun _ K8 => ?_
 refine g7 [(0, none), (1, none), (2, none), (4, none), (5, none), (3, none), (6, none), (7, none)] (fun i => [6].contains i) (fun i => [3, 6].contains i) (fun i => [0, 1, 4, 7].contains i) [] (by kernel_rfl) (by kernel_rfl) ?_
 refine xM rfl rfl rfl rfl rfl ?_
 refine ae rfl rfl rfl rfl (cx rfl rfl rfl) ?_
 try dsimp only [St.put]
 refine bd rfl rfl rfl rfl (cm rfl rfl) ?_
 refine ae rfl rfl rfl rfl (cx rfl rfl rfl) ?_
 try dsimp only [St.put]
 refine bd rfl rfl rfl rfl (cm rfl rfl) ?_
 refine jo ?_
 try dsimp only [St.put]
 refine ka rfl rfl rfl (qw (xs := ([] : List bw)) p.firsts rfl rfl zG rfl rfl rfl rfl zA zA (fun v1 => ⟨zD, ?_⟩))
 try dsimp only [St.put]
 refine ka rfl rfl rfl (qw (xs := ([] : List bw) ++ p.firsts) p.seconds rfl rfl zG rfl rfl rfl rfl zA zA (fun v2 => ⟨zD, ?_⟩))
 refine c8 rfl rfl rfl rfl (fp rfl (by constructor)) ?_
 refine ji ?_
 dsimp only [St.put]
 refine K8 _ ?_
 refine v8 3 (([] : List bw) ++ p.firsts ++ p.seconds) rfl zG rfl rfl rfl ?_
 refine dd G zX ?_
 dsimp only
 rw [show ([] : List bw) ++ p.firsts ++ p.seconds = A from hA]
 refine yS fun _ K9 => ?_
 refine yS fun _ K10 => ?_
 refine yR ?_
 refine yA rfl rfl ?_
 refine yN ?_
 dsimp only [St.put]
 refine K10 _ ?_
 refine bg ?_
 refine ct 9 ?_
 refine zQ ?_
 refine dd (G) zX ?_
 dsimp only
 refine dc (X := Nat) (fun i => i ≤ A.length ∧ (A.take i).all gy = true ∧ ((A.take i).map (·.id)).Nodup) (fun i => A.length - i) (fun i => [(4, .v (.int .i64 (i : Int))), (5, .any)]) (fun i G' => G') 0 rfl ?_ ?_ (fun _ _ h => h) ?_ ?_ ?_
 ·exact ⟨Nat.zero_le _, rfl, by simp⟩
 ·exact zF
 ·rintro i hI
  exact zL
 ·exact fun _ _ _ _ h => .inl h
 rintro i hI
 dsimp only at hI ⊢
 refine yS fun _ K11 => ?_
 refine yS fun _ K12 => ?_
 refine yR ?_
 refine yM rfl rfl ?_
 refine yM rfl rfl ?_
 refine aa rfl (bp rfl rfl (List.length_map _)) ?_
 refine aa rfl (cp rfl rfl rfl) ?_
 refine yN ?_
 dsimp only [St.put]
 refine K12 _ ?_
 refine av rfl (fun hc => ?_) (fun hc => ?_)
 ·replace hc := of_decide_eq_true hc
  obtain ⟨r, hr⟩ : ∃ r, A[i]? = some r := dp (by omega)
  refine ay ?_
  refine K11 _ ?_
  refine yS fun _ K13 => ?_
  refine bg ?_
  refine yS fun _ K14 => ?_
  refine yS fun _ K15 => ?_
  refine yR ?_
  refine yM rfl rfl ?_
  refine yM rfl rfl ?_
  refine aa rfl (bx rfl rfl rfl rfl (bv (by assumption)) (Enc.len _)) ?_
  refine yF rfl rfl rfl rfl ?_
  refine yL rfl rfl rfl ?_
  try dsimp only [St.put]
  refine af rfl (bc rfl rfl rfl (qg _ _ _) ?_)
  refine aa rfl (d7 rfl rfl) ?_
  refine ff (fun hs => ?_) (fun hs => ?_)
  ·have q1 : inB r.id 0 9999 = false := by simpa using hs
   refine yM rfl rfl ?_
   refine yK rfl ?_
   refine yK rfl ?_
   refine yK rfl ?_
   refine yK rfl ?_
   refine yK rfl ?_
   refine yK rfl ?_
   refine yK rfl ?_
   refine aa rfl (ci rfl rfl (by constructor)) ?_
   refine yN ?_
   dsimp only [St.put]
   refine K15 _ ?_
   refine av rfl (fun _ => ?_) (fun h => by cases h)
   refine yS fun _ K16 => ?_
   refine yR ?_
   refine yA rfl rfl ?_
   refine yN ?_
   dsimp only [St.put]
   refine K16 _ ?_
   refine ax ?_
   refine bf rfl (by constructor) zN zS ?_
   exact vb (by
    have hb : gy r = false := by first | (simp [gy, q1]; done) | (simp [gy, q2]; done)
    have : A.all gy = false := j9 hr hb
    rw [← hA] at this
    simp only [gg, jt, this, Bool.and_false, Bool.false_and])
  have q1 : inB r.id 0 9999 = true := by simpa using hs
  refine yM rfl rfl ?_
  refine yM rfl rfl ?_
  refine yM rfl rfl ?_
  refine aa rfl (bx rfl rfl rfl rfl (bv (by assumption)) (Enc.len _)) ?_
  refine yF rfl rfl rfl rfl ?_
  refine yL rfl rfl rfl ?_
  try dsimp only [St.put]
  refine af rfl (bc rfl rfl rfl (qg _ _ _) ?_)
  refine aa rfl (d7 rfl rfl) ?_
  refine ff (fun hs => ?_) (fun hs => ?_)
  ·have q2 : inB r.miss 0 90 = false := by simpa using hs
   refine aa rfl (c5 rfl rfl (by constructor)) ?_
   refine yN ?_
   dsimp only [St.put]
   refine K15 _ ?_
   refine av rfl (fun _ => ?_) (fun h => by cases h)
   refine yS fun _ K17 => ?_
   refine yR ?_
   refine yA rfl rfl ?_
   refine yN ?_
   dsimp only [St.put]
   refine K17 _ ?_
   refine ax ?_
   refine bf rfl (by constructor) zN zS ?_
   exact vb (by
    have hb : gy r = false := by first | (simp [gy, q1]; done) | (simp [gy, q2]; done)
    have : A.all gy = false := j9 hr hb
    rw [← hA] at this
    simp only [gg, jt, this, Bool.and_false, Bool.false_and])
  have q2 : inB r.miss 0 90 = true := by simpa using hs
  have hrb : gy r = true := by simp [gy, q1, q2]
  refine aa rfl (c5 rfl rfl (by constructor)) ?_
  refine yN ?_
  dsimp only [St.put]
  refine K15 _ ?_
  refine av rfl (fun h => by cases h) (fun _ => ?_)
  refine ay ?_
  refine K14 _ ?_
  refine yS fun _ K18 => ?_
  refine yR ?_
  refine yA rfl rfl ?_
  refine yN ?_
  dsimp only [St.put]
  refine K18 _ ?_
  refine bg ?_
  refine ct 9 ?_
  refine zQ ?_
  refine dd (G) zX ?_
  dsimp only
  refine dc (X := Nat) (fun k => k ≤ i ∧ ∀ y ∈ A.take k, y.id ≠ r.id) (fun k => i - k) (fun k => [(5, .v (.int .i64 (k : Int)))]) (fun k G' => G') 0 rfl ?_ ?_ (fun _ _ h => h) ?_ ?_ ?_
  ·exact ⟨Nat.zero_le _, by simp⟩
  ·exact zF
  ·rintro k hI
   exact zL
  ·exact fun _ _ _ _ h => .inl h
  rintro k hJ
  dsimp only at hJ ⊢
  refine yS fun _ K19 => ?_
  refine yS fun _ K20 => ?_
  refine yR ?_
  refine yM rfl rfl ?_
  refine yM rfl rfl ?_
  refine aa rfl (cp rfl rfl rfl) ?_
  refine yN ?_
  dsimp only [St.put]
  refine K20 _ ?_
  refine av rfl (fun hc => ?_) (fun hc => ?_)
  ·replace hc := of_decide_eq_true hc
   obtain ⟨y, hy⟩ : ∃ y, A[k]? = some y := dp (by omega)
   refine ay ?_
   refine K19 _ ?_
   refine yS fun _ K21 => ?_
   refine bg ?_
   refine yS fun _ K22 => ?_
   refine g7 [(0, none), (1, none), (2, none), (3, none), (4, none), (5, none), (6, none), (7, none), (8, none), (9, none), (10, none)] (fun i => [].contains i) (fun i => [].contains i) (fun i => [0, 1, 2, 3, 5, 6, 7, 8, 10].contains i) [] (by kernel_rfl) (by kernel_rfl) ?_
   refine xM rfl rfl rfl rfl rfl ?_
   refine xM rfl rfl rfl rfl rfl ?_
   try dsimp only [St.put]
   refine ae rfl rfl rfl rfl (bx rfl rfl rfl rfl (bv (by assumption)) (Enc.len _)) ?_
   refine ae rfl rfl rfl rfl (cx rfl rfl rfl) ?_
   try dsimp only [St.put]
   refine bd rfl rfl rfl rfl (cm rfl rfl) ?_
   refine xM rfl rfl rfl rfl rfl ?_
   refine xM rfl rfl rfl rfl rfl ?_
   try dsimp only [St.put]
   refine ae rfl rfl rfl rfl (bx rfl rfl rfl rfl (bv (by assumption)) (Enc.len _)) ?_
   refine ae rfl rfl rfl rfl (cx rfl rfl rfl) ?_
   try dsimp only [St.put]
   refine bd rfl rfl rfl rfl (cm rfl rfl) ?_
   refine ae rfl rfl rfl rfl (fm rfl rfl rfl) ?_
   refine az ?_
   dsimp only [St.put]
   refine K22 _ ?_
   refine av rfl (fun hc => ?_) (fun hc => ?_)
   ·have hyr : y.id = r.id := of_decide_eq_true hc
    refine yS fun _ K23 => ?_
    refine yR ?_
    refine yA rfl rfl ?_
    refine yN ?_
    dsimp only [St.put]
    refine K23 _ ?_
    refine ax ?_
    refine bf rfl (by constructor) zN zS ?_
    exact vb (by
     have : ¬ (A.map (·.id)).Nodup := x5 hy hr (by omega) hyr
     rw [← hA] at this
     simp only [gg, jt, decide_eq_false this, Bool.and_false, Bool.false_and])
   have hne : y.id ≠ r.id := of_decide_eq_false hc
   refine ay ?_
   refine K21 _ ?_
   refine yR ?_
   refine yM rfl rfl ?_
   refine aa rfl (bz rfl rfl rfl (by omega)) ?_
   refine yA rfl rfl ?_
   refine yN ?_
   dsimp only [St.put]
   exact ⟨k + 1, by omega, ⟨by omega, ucn (p := fun y : bw => y.id ≠ r.id) hy hne hJ.2⟩, ⟨⟨rfl, rfl⟩, zF, zB, zN, zX⟩⟩
  replace hc := of_decide_eq_false hc
  have hki : k = i := by omega
  rw [hki] at hJ
  have hnd : r.id ∉ (A.take i).map (·.id) := fun hm => by
   obtain ⟨y, hy1, hy2⟩ := List.mem_map.1 hm
   exact hJ.2 y hy1 hy2
  refine c7 ?_
  refine K13 _ ?_
  refine yR ?_
  refine yM rfl rfl ?_
  refine aa rfl (bz rfl rfl rfl (by omega)) ?_
  refine yA rfl rfl ?_
  refine yN ?_
  dsimp only [St.put]
  exact ⟨i + 1, by omega, ⟨by omega, by rw [p7 hr, hI.2.1, hrb]; rfl, by rw [ox hr]; exact x6 hI.2.2 hnd⟩, ⟨⟨rfl, rfl⟩, zF, zB, zN, zX⟩⟩
 replace hc := of_decide_eq_false hc
 have hRB : jt p = true := by
  have h1 := hI.2.1
  have h2 := hI.2.2
  rw [f8 (show A.length ≤ i by omega), ← hA] at h1 h2
  unfold jt
  rw [h1, decide_eq_true h2, decide_eq_true s1, decide_eq_true s2]; rfl
 refine c7 ?_
 refine K9 _ ?_
 refine yS fun _ K24 => ?_
 refine yR ?_
 refine yA rfl rfl ?_
 refine yN ?_
 dsimp only [St.put]
 refine K24 _ ?_
 refine yS fun _ K25 => ?_
 refine yS fun _ K26 => ?_
 refine yR ?_
 refine yA rfl rfl ?_
 refine yN ?_
 dsimp only [St.put]
 refine K26 _ ?_
 refine bg ?_
 refine ct 9 ?_
 refine zQ ?_
 refine dd (G) zX ?_
 dsimp only
 refine dc (X := Nat) (fun j => j ≤ p.pages.length ∧ pm p j = true) (fun j => p.pages.length - j) (fun j => [(6, .v (.int .i64 (im p.pages j))), (7, .v (.int .i64 (j : Int))), (8, .any)]) (fun j G' => G') 0 rfl ?_ ?_ (fun _ _ h => h) ?_ ?_ ?_
 ·exact ⟨Nat.zero_le _, rfl⟩
 ·exact zF
 ·rintro j hI
  exact zL
 ·exact fun _ _ _ _ h => .inl h
 rintro j hK
 dsimp only at hK ⊢
 refine yS fun _ K27 => ?_
 refine yS fun _ K28 => ?_
 refine yR ?_
 refine yM rfl rfl ?_
 refine yF rfl rfl rfl rfl ?_
 refine yL rfl rfl rfl ?_
 refine aa rfl (bp rfl rfl (List.length_map _)) ?_
 refine aa rfl (cp rfl rfl rfl) ?_
 refine yN ?_
 dsimp only [St.put]
 refine K28 _ ?_
 refine av rfl (fun hc => ?_) (fun hc => ?_)
 ·replace hc := of_decide_eq_true hc
  obtain ⟨x, hx⟩ : ∃ x, p.pages[j]? = some x := dp (by omega)
  refine ay ?_
  refine K27 _ ?_
  refine yS fun _ K29 => ?_
  refine bg ?_
  refine yS fun _ K30 => ?_
  refine yR ?_
  refine yF rfl rfl rfl rfl ?_
  refine yL rfl rfl rfl ?_
  refine yM rfl rfl ?_
  refine aa rfl (bx rfl rfl rfl rfl (bv (by assumption)) (Enc.len _)) ?_
  refine yE rfl rfl rfl ?_
  try dsimp only [St.put]
  refine af rfl (dx rfl ?_)
  try dsimp only [St.put]
  refine af rfl (dh rfl rfl rfl zG rfl rfl (by rfl) ?_)
  refine yN ?_
  dsimp only [St.put]
  refine K30 _ ?_
  refine gh (i := 8) rfl zG zC ?_
  dsimp only
  refine yS fun _ K31 => ?_
  refine ct 9 ?_
  refine zQ ?_
  refine kr (X := Bool) (fun d => l9 p (im p.pages j) x = !d) (fun d => [(120, .v (.bool d))]) (fun d G' => G') rfl ?_ (fun _ _ _ _ h => .inl h) ?_ ?_
  ·rintro d hI
   exact zL
  ·refine rb [(0, none), (1, none), (2, none), (3, none), (4, none), (5, none), (6, none), (7, none), (8, none), (9, none), (10, none), (11, none), (12, none), (13, none), (14, none), (15, none)] (fun _ => false) (fun i => [0, 2, 3, 4, 5, 7, 9, 10, 11, 12, 14].contains i) 23 (rl [16, 23]) (by kernel_rfl) (by kernel_rfl) ?_
   refine ae rfl rfl rfl rfl (cx rfl rfl rfl) ?_
   try dsimp only [St.put]
   refine bd rfl rfl rfl rfl (cm rfl rfl) ?_
   refine xM rfl rfl rfl rfl rfl ?_
   refine ae rfl rfl rfl rfl (sj rfl rfl rfl) ?_
   refine jy (fun hs => ?_) (fun hs => ?_)
   ·have z1 : x.fr ≤ im p.pages j := of_decide_eq_true hs
    refine xM rfl rfl rfl rfl rfl ?_
    refine aj rfl rfl rfl ?_
    refine aj rfl rfl rfl ?_
    refine aj rfl rfl rfl ?_
    refine aj rfl rfl rfl ?_
    refine aj rfl rfl rfl ?_
    refine ae rfl rfl rfl rfl (ci rfl rfl (by constructor)) ?_
    refine xM rfl rfl rfl rfl rfl ?_
    refine aj rfl rfl rfl ?_
    refine aj rfl rfl rfl ?_
    refine aj rfl rfl rfl ?_
    refine aj rfl rfl rfl ?_
    refine az ?_
    refine eb [16] (by kernel_rfl) (by simp) ?_
    refine d9 ?_ ?_
    ·refine gi rfl rfl rfl ?_
     refine et [(17, none), (18, none), (19, none), (20, none), (21, none), (22, none), (23, none), (24, none), (25, none)] (fun i => [17, 18, 19, 20, 22, 24, 25].contains i) 13 (rl [26, 13]) (by kernel_rfl) ?_
     refine aj rfl rfl rfl ?_
     refine ae rfl rfl rfl rfl (ci rfl rfl (by constructor)) ?_
     refine xM rfl rfl rfl rfl rfl ?_
     refine aj rfl rfl rfl ?_
     refine aj rfl rfl rfl ?_
     refine aj rfl rfl rfl ?_
     refine aj rfl rfl rfl ?_
     refine aj rfl rfl rfl ?_
     refine aj rfl rfl rfl ?_
     refine az ?_
     refine eb [26] (by kernel_rfl) (by simp) ?_
     refine d9 ?_ ?_
     ·refine gi rfl rfl rfl ?_
      refine et [(27, none), (28, none), (29, none), (30, none), (31, none), (32, none), (33, none), (34, none), (35, none)] (fun i => [27, 28, 29, 30, 32, 34, 35].contains i) 3 (rl [36, 3]) (by kernel_rfl) ?_
      refine aj rfl rfl rfl ?_
      refine ae rfl rfl rfl rfl (ci rfl rfl (by constructor)) ?_
      refine xM rfl rfl rfl rfl rfl ?_
      refine aj rfl rfl rfl ?_
      refine aj rfl rfl rfl ?_
      refine aj rfl rfl rfl ?_
      refine aj rfl rfl rfl ?_
      refine aj rfl rfl rfl ?_
      refine aj rfl rfl rfl ?_
      refine az ?_
      refine eb [36] (by kernel_rfl) (by simp) ?_
      refine d9 ?_ ?_
      ·refine gi rfl rfl rfl ?_
       refine et [(37, none), (38, none)] (fun i => [37, 38].contains i) 0 (rl [39]) (by kernel_rfl) ?_
       refine aj rfl rfl rfl ?_
       refine ae rfl rfl rfl rfl (ci rfl rfl (by constructor)) ?_
       refine az ?_
       dsimp only [St.put]
       refine ix (by kernel_rfl) ?_
       refine ⟨_, ?_, ⟨⟨rfl, rfl⟩, zF, zB, zN, zX⟩⟩
       simp_all [l9]
       try (intro h0; omega)
      exact d8
     exact d8
    exact d8
   have z1 : ¬ x.fr ≤ im p.pages j := of_decide_eq_false hs
   refine xM rfl rfl rfl rfl rfl ?_
   refine ae rfl rfl rfl rfl (cx rfl rfl rfl) ?_
   try dsimp only [St.put]
   refine bd rfl rfl rfl rfl (cm rfl rfl) ?_
   refine ae rfl rfl rfl rfl (cx rfl rfl rfl) ?_
   try dsimp only [St.put]
   refine bd rfl rfl rfl rfl (cm rfl rfl) ?_
   refine ae rfl rfl rfl rfl (cp rfl rfl rfl) ?_
   refine jy (fun hs => ?_) (fun hs => ?_)
   ·have z2 : x.to < x.fr := of_decide_eq_true hs
    refine ae rfl rfl rfl rfl (c5 rfl rfl (by constructor)) ?_
    refine xM rfl rfl rfl rfl rfl ?_
    refine aj rfl rfl rfl ?_
    refine aj rfl rfl rfl ?_
    refine aj rfl rfl rfl ?_
    refine aj rfl rfl rfl ?_
    refine az ?_
    refine eb [16] (by kernel_rfl) (by simp) ?_
    refine d9 ?_ ?_
    ·refine gi rfl rfl rfl ?_
     refine et [(17, none), (18, none), (19, none), (20, none), (21, none), (22, none), (23, none), (24, none), (25, none)] (fun i => [17, 18, 19, 20, 22, 24, 25].contains i) 13 (rl [26, 13]) (by kernel_rfl) ?_
     refine aj rfl rfl rfl ?_
     refine ae rfl rfl rfl rfl (ci rfl rfl (by constructor)) ?_
     refine xM rfl rfl rfl rfl rfl ?_
     refine aj rfl rfl rfl ?_
     refine aj rfl rfl rfl ?_
     refine aj rfl rfl rfl ?_
     refine aj rfl rfl rfl ?_
     refine aj rfl rfl rfl ?_
     refine aj rfl rfl rfl ?_
     refine az ?_
     refine eb [26] (by kernel_rfl) (by simp) ?_
     refine d9 ?_ ?_
     ·refine gi rfl rfl rfl ?_
      refine et [(27, none), (28, none), (29, none), (30, none), (31, none), (32, none), (33, none), (34, none), (35, none)] (fun i => [27, 28, 29, 30, 32, 34, 35].contains i) 3 (rl [36, 3]) (by kernel_rfl) ?_
      refine aj rfl rfl rfl ?_
      refine ae rfl rfl rfl rfl (ci rfl rfl (by constructor)) ?_
      refine xM rfl rfl rfl rfl rfl ?_
      refine aj rfl rfl rfl ?_
      refine aj rfl rfl rfl ?_
      refine aj rfl rfl rfl ?_
      refine aj rfl rfl rfl ?_
      refine aj rfl rfl rfl ?_
      refine aj rfl rfl rfl ?_
      refine az ?_
      refine eb [36] (by kernel_rfl) (by simp) ?_
      refine d9 ?_ ?_
      ·refine gi rfl rfl rfl ?_
       refine et [(37, none), (38, none)] (fun i => [37, 38].contains i) 0 (rl [39]) (by kernel_rfl) ?_
       refine aj rfl rfl rfl ?_
       refine ae rfl rfl rfl rfl (ci rfl rfl (by constructor)) ?_
       refine az ?_
       dsimp only [St.put]
       refine ix (by kernel_rfl) ?_
       refine ⟨_, ?_, ⟨⟨rfl, rfl⟩, zF, zB, zN, zX⟩⟩
       simp_all [l9]
       try (intro h0; omega)
      exact d8
     exact d8
    exact d8
   have z2 : ¬ x.to < x.fr := of_decide_eq_false hs
   refine ae rfl rfl rfl rfl (c5 rfl rfl (by constructor)) ?_
   refine xM rfl rfl rfl rfl rfl ?_
   refine ae rfl rfl rfl rfl (cx rfl rfl rfl) ?_
   try dsimp only [St.put]
   refine bd rfl rfl rfl rfl (cm rfl rfl) ?_
   refine ae rfl rfl rfl rfl (cx rfl rfl rfl) ?_
   try dsimp only [St.put]
   refine bd rfl rfl rfl rfl (c := i9 p.text) (j0 (cs := cells p) rfl rfl (show 1 ≤ 4 by decide)) ?_
   refine az ?_
   refine eb [16] (by kernel_rfl) (by simp) ?_
   refine d9 ?_ ?_
   ·try dsimp only [St.put]
    refine i0 rfl rfl rfl (bc rfl rfl rfl (uim p.text ht) ?_)
    refine et [(17, none), (18, none), (19, none), (20, none), (21, none), (22, none), (23, none), (24, none), (25, none)] (fun i => [17, 18, 19, 20, 22, 24, 25].contains i) 13 (rl [26, 13]) (by kernel_rfl) ?_
    refine ae rfl rfl rfl rfl (lp rfl rfl rfl) ?_
    refine jy (fun hs => ?_) (fun hs => ?_)
    ·have z3 : (l8 p.text : Int) ≤ x.to := of_decide_eq_true hs
     refine ae rfl rfl rfl rfl (c5 rfl rfl (by constructor)) ?_
     refine xM rfl rfl rfl rfl rfl ?_
     refine aj rfl rfl rfl ?_
     refine aj rfl rfl rfl ?_
     refine aj rfl rfl rfl ?_
     refine aj rfl rfl rfl ?_
     refine aj rfl rfl rfl ?_
     refine aj rfl rfl rfl ?_
     refine az ?_
     refine eb [26] (by kernel_rfl) (by simp) ?_
     refine d9 ?_ ?_
     ·refine gi rfl rfl rfl ?_
      refine et [(27, none), (28, none), (29, none), (30, none), (31, none), (32, none), (33, none), (34, none), (35, none)] (fun i => [27, 28, 29, 30, 32, 34, 35].contains i) 3 (rl [36, 3]) (by kernel_rfl) ?_
      refine aj rfl rfl rfl ?_
      refine ae rfl rfl rfl rfl (ci rfl rfl (by constructor)) ?_
      refine xM rfl rfl rfl rfl rfl ?_
      refine aj rfl rfl rfl ?_
      refine aj rfl rfl rfl ?_
      refine aj rfl rfl rfl ?_
      refine aj rfl rfl rfl ?_
      refine aj rfl rfl rfl ?_
      refine aj rfl rfl rfl ?_
      refine az ?_
      refine eb [36] (by kernel_rfl) (by simp) ?_
      refine d9 ?_ ?_
      ·refine gi rfl rfl rfl ?_
       refine et [(37, none), (38, none)] (fun i => [37, 38].contains i) 0 (rl [39]) (by kernel_rfl) ?_
       refine aj rfl rfl rfl ?_
       refine ae rfl rfl rfl rfl (ci rfl rfl (by constructor)) ?_
       refine az ?_
       dsimp only [St.put]
       refine ix (by kernel_rfl) ?_
       refine ⟨_, ?_, ⟨⟨rfl, rfl⟩, zF, zB, zN, zX⟩⟩
       simp_all [l9]
       try (intro h0; omega)
      exact d8
     exact d8
    have z3 : ¬ (l8 p.text : Int) ≤ x.to := of_decide_eq_false hs
    refine ae rfl rfl rfl rfl (c5 rfl rfl (by constructor)) ?_
    refine xM rfl rfl rfl rfl rfl ?_
    refine ae rfl rfl rfl rfl (cx rfl rfl rfl) ?_
    try dsimp only [St.put]
    refine bd rfl rfl rfl rfl (cm rfl rfl) ?_
    refine ae rfl rfl rfl rfl (cx rfl rfl rfl) ?_
    try dsimp only [St.put]
    refine bd rfl rfl rfl rfl (cm rfl rfl) ?_
    refine ae rfl rfl rfl rfl (bp rfl rfl (List.length_map _)) ?_
    refine ae rfl rfl rfl rfl (gt rfl rfl rfl (by omega)) ?_
    refine az ?_
    refine eb [26] (by kernel_rfl) (by simp) ?_
    refine d9 ?_ ?_
    ·try dsimp only [St.put]
     refine i0 rfl rfl rfl (bc rfl rfl rfl (qg _ _ _) ?_)
     refine et [(27, none), (28, none), (29, none), (30, none), (31, none), (32, none), (33, none), (34, none), (35, none)] (fun i => [27, 28, 29, 30, 32, 34, 35].contains i) 3 (rl [36, 3]) (by kernel_rfl) ?_
     refine ae rfl rfl rfl rfl (d7 rfl rfl) ?_
     refine jy (fun hs => ?_) (fun hs => ?_)
     ·have z4 : inB x.fst (-1) ((p.firsts.length : Int) - 1) = false := by simpa using hs
      refine ae rfl rfl rfl rfl (c5 rfl rfl (by constructor)) ?_
      refine xM rfl rfl rfl rfl rfl ?_
      refine aj rfl rfl rfl ?_
      refine aj rfl rfl rfl ?_
      refine aj rfl rfl rfl ?_
      refine aj rfl rfl rfl ?_
      refine aj rfl rfl rfl ?_
      refine aj rfl rfl rfl ?_
      refine az ?_
      refine eb [36] (by kernel_rfl) (by simp) ?_
      refine d9 ?_ ?_
      ·refine gi rfl rfl rfl ?_
       refine et [(37, none), (38, none)] (fun i => [37, 38].contains i) 0 (rl [39]) (by kernel_rfl) ?_
       refine aj rfl rfl rfl ?_
       refine ae rfl rfl rfl rfl (ci rfl rfl (by constructor)) ?_
       refine az ?_
       dsimp only [St.put]
       refine ix (by kernel_rfl) ?_
       refine ⟨_, ?_, ⟨⟨rfl, rfl⟩, zF, zB, zN, zX⟩⟩
       simp_all [l9]
       try (intro h0; omega)
      exact d8
     have z4 : inB x.fst (-1) ((p.firsts.length : Int) - 1) = true := by simpa using hs
     refine ae rfl rfl rfl rfl (c5 rfl rfl (by constructor)) ?_
     refine xM rfl rfl rfl rfl rfl ?_
     refine ae rfl rfl rfl rfl (cx rfl rfl rfl) ?_
     try dsimp only [St.put]
     refine bd rfl rfl rfl rfl (cm rfl rfl) ?_
     refine ae rfl rfl rfl rfl (cx rfl rfl rfl) ?_
     try dsimp only [St.put]
     refine bd rfl rfl rfl rfl (cm rfl rfl) ?_
     refine ae rfl rfl rfl rfl (bp rfl rfl (List.length_map _)) ?_
     refine ae rfl rfl rfl rfl (gt rfl rfl rfl (by omega)) ?_
     refine az ?_
     refine eb [36] (by kernel_rfl) (by simp) ?_
     refine d9 ?_ ?_
     ·try dsimp only [St.put]
      refine i0 rfl rfl rfl (bc rfl rfl rfl (qg _ _ _) ?_)
      refine et [(37, none), (38, none)] (fun i => [37, 38].contains i) 0 (rl [39]) (by kernel_rfl) ?_
      refine ae rfl rfl rfl rfl (d7 rfl rfl) ?_
      refine jy (fun hs => ?_) (fun hs => ?_)
      ·have z5 : inB x.snd (-1) ((p.seconds.length : Int) - 1) = false := by simpa using hs
       refine ae rfl rfl rfl rfl (c5 rfl rfl (by constructor)) ?_
       refine az ?_
       dsimp only [St.put]
       refine ix (by kernel_rfl) ?_
       refine ⟨_, ?_, ⟨⟨rfl, rfl⟩, zF, zB, zN, zX⟩⟩
       simp_all [l9]
       try (intro h0; omega)
      have z5 : inB x.snd (-1) ((p.seconds.length : Int) - 1) = true := by simpa using hs
      refine ae rfl rfl rfl rfl (c5 rfl rfl (by constructor)) ?_
      refine az ?_
      dsimp only [St.put]
      refine ix (by kernel_rfl) ?_
      refine ⟨_, ?_, ⟨⟨rfl, rfl⟩, zF, zB, zN, zX⟩⟩
      simp_all [l9]
      try (intro h0; omega)
     exact d8
    exact d8
   exact d8
  rintro d hst
  dsimp only at hst ⊢
  refine av rfl (fun hc => ?_) (fun hc => ?_)
  ·have hhd : l9 p (im p.pages j) x = false := by rw [hst, hc]; rfl
   refine yS fun _ K33 => ?_
   refine yR ?_
   refine yA rfl rfl ?_
   refine yN ?_
   dsimp only [St.put]
   refine K33 _ ?_
   refine ax ?_
   refine bf rfl (by constructor) zN zS ?_
   exact vb (uo hx (by rw [uq, hhd]; rfl)).symm
  have hhd : l9 p (im p.pages j) x = true := by rw [hst, hc]; rfl
  refine ay ?_
  refine K31 _ ?_
  refine yS fun _ K34 => ?_
  refine yS fun _ K35 => ?_
  refine yR ?_
  refine yF rfl rfl rfl rfl ?_
  try dsimp only [St.put]
  refine ck rfl (c := i9 p.text) (j0 (cs := cells p) rfl rfl (show 1 ≤ 4 by decide)) ?_
  refine yE rfl rfl rfl ?_
  refine yF rfl rfl rfl rfl ?_
  refine yL rfl rfl rfl ?_
  refine yF rfl rfl rfl rfl ?_
  refine yL rfl rfl rfl ?_
  try dsimp only [St.put]
  refine af rfl (bc rfl rfl rfl (ubb p.text x x.fst x.found ht) ?_)
  refine aa rfl (d7 rfl rfl) ?_
  refine ff (fun hs => ?_) (fun hs => ?_)
  ·have hf1 : ig p.text x x.fst x.found = false := by simpa using hs
   refine yM rfl rfl ?_
   refine yK rfl ?_
   refine yK rfl ?_
   refine yK rfl ?_
   refine yK rfl ?_
   refine yK rfl ?_
   refine yK rfl ?_
   refine yK rfl ?_
   refine yK rfl ?_
   refine yK rfl ?_
   refine aa rfl (ci rfl rfl (by constructor)) ?_
   refine yN ?_
   dsimp only [St.put]
   refine K35 _ ?_
   refine av rfl (fun _ => ?_) (fun h => by cases h)
   refine yS fun _ K36 => ?_
   refine yR ?_
   refine yA rfl rfl ?_
   refine yN ?_
   dsimp only [St.put]
   refine K36 _ ?_
   refine ax ?_
   refine bf rfl (by constructor) zN zS ?_
   exact vb (uo hx (by rw [uq, hhd, hf1]; first | rfl | (rw [hf2]; rfl))).symm
  have hf1 : ig p.text x x.fst x.found = true := by simpa using hs
  refine yM rfl rfl ?_
  refine yF rfl rfl rfl rfl ?_
  try dsimp only [St.put]
  refine ck rfl (c := i9 p.text) (j0 (cs := cells p) rfl rfl (show 1 ≤ 4 by decide)) ?_
  refine yE rfl rfl rfl ?_
  refine yF rfl rfl rfl rfl ?_
  refine yL rfl rfl rfl ?_
  refine yF rfl rfl rfl rfl ?_
  refine yL rfl rfl rfl ?_
  try dsimp only [St.put]
  refine af rfl (bc rfl rfl rfl (ubb p.text x x.snd x.well ht) ?_)
  refine aa rfl (d7 rfl rfl) ?_
  refine ff (fun hs => ?_) (fun hs => ?_)
  ·have hf2 : ig p.text x x.snd x.well = false := by simpa using hs
   refine aa rfl (c5 rfl rfl (by constructor)) ?_
   refine yN ?_
   dsimp only [St.put]
   refine K35 _ ?_
   refine av rfl (fun _ => ?_) (fun h => by cases h)
   refine yS fun _ K37 => ?_
   refine yR ?_
   refine yA rfl rfl ?_
   refine yN ?_
   dsimp only [St.put]
   refine K37 _ ?_
   refine ax ?_
   refine bf rfl (by constructor) zN zS ?_
   exact vb (uo hx (by rw [uq, hhd, hf1]; first | rfl | (rw [hf2]; rfl))).symm
  have hf2 : ig p.text x x.snd x.well = true := by simpa using hs
  refine aa rfl (c5 rfl rfl (by constructor)) ?_
  refine yN ?_
  dsimp only [St.put]
  refine K35 _ ?_
  refine av rfl (fun h => by cases h) (fun _ => ?_)
  refine ay ?_
  refine K34 _ ?_
  refine yR ?_
  refine yF rfl rfl rfl rfl ?_
  refine yL rfl rfl rfl ?_
  refine yA rfl rfl ?_
  refine yN ?_
  dsimp only [St.put]
  refine K29 _ ?_
  refine yR ?_
  refine yM rfl rfl ?_
  refine aa rfl (bz rfl rfl rfl (by omega)) ?_
  refine yA rfl rfl ?_
  refine yN ?_
  dsimp only [St.put]
  rw [← uc4 hx]
  exact ⟨j + 1, by omega, ⟨by omega, by rw [ubn, hK.2, xo hx, uq, hhd, hf1, hf2]; rfl⟩, ⟨⟨rfl, rfl⟩, zF, zB, zN, zX⟩⟩
 replace hc := of_decide_eq_false hc
 obtain rfl : j = p.pages.length := by omega
 refine c7 ?_
 refine K25 _ ?_
 refine yS fun _ K38 => ?_
 refine yR ?_
 refine yA rfl rfl ?_
 refine yN ?_
 dsimp only [St.put]
 refine K38 _ ?_
 refine ax ?_
 refine bf rfl (by constructor) zN zS ?_
 exact vb (by unfold gg; rw [hRB, hK.2, decide_eq_true s3]; rfl)
end Go.Proofs.YtbbdginipiljdaaGreatDoor
namespace Go.AB
open Go Go.RowKit
open Go.AB.Enc (cells)
open Go.PB (ba ai PlaceD bh bj bi bw aw ah cw br dg dl)
theorem p6 {p : ah} {n : Int} (h : eo p n = 0) : cv p = 0 ∧ ∃ (j : Nat) (x : aw), n = (j : Int) ∧ p.pages[j]? = some x ∧ l5 p n = x := by
 unfold eo at h
 by_cases hc : cv p = 0
 ·rw [decide_eq_true hc, cond_true] at h
  cases hb : inB n 0 ((p.pages.length : Int) - 1)
  ·rw [hb] at h; cases h
  rw [inB_true] at hb
  obtain ⟨x, hx⟩ : ∃ x, p.pages[n.toNat]? = some x := ⟨_, List.getElem?_eq_getElem (show n.toNat < p.pages.length by omega)⟩
  exact ⟨hc, n.toNat, x, by omega, hx, by unfold l5; rw [hx]; rfl⟩
 rw [decide_eq_false hc, cond_false] at h
 exact absurd h hc
end Go.AB
namespace Go.Proofs.YtbbdginipiljdaaGreatDoor
set_option maxRecDepth 10000
open Go.RowKit Go.AB
open Go.AB.Enc (cells)
open Go.PB (ba ai PlaceD bh bj bi bw aw ah cw br dg dl)
theorem uip (p : ah) : Pure Tryz.prog 49 [val p] (.v (.int .i64 (cv p))) := by
 refine c6 Tryz.func49 rfl (fun m => .v) fun G nx => ?_
 simp only [Tryz.ntmps49, List.length_cons, List.length_nil, Nat.reduceAdd, Nat.reduceSub]
 refine cc fun hlt => ?_
 dsimp only at hlt
 refine yS fun _ K1 => ?_
 refine yR ?_
 try dsimp only [St.put]
 refine yB rfl rfl rfl ?_
 refine yA rfl rfl ?_
 refine yN ?_
 dsimp only [St.put]
 refine K1 _ ?_
 refine yS fun _ K2 => ?_
 refine yS fun _ K3 => ?_
 refine yR ?_
 refine yF rfl rfl rfl rfl ?_
 try dsimp only [St.put]
 refine ck rfl (c := i9 p.text) (j0 (cs := cells p) rfl rfl (show 1 ≤ 4 by decide)) ?_
 try dsimp only [St.put]
 refine af rfl (bc rfl rfl rfl (uoe p.text) ?_)
 refine yA rfl rfl ?_
 refine yN ?_
 dsimp only [St.put]
 refine K3 _ ?_
 refine yS fun _ K4 => ?_
 refine yR ?_
 refine yM rfl rfl ?_
 refine aa rfl (fl rfl rfl rfl) ?_
 refine yN ?_
 dsimp only [St.put]
 refine K4 _ ?_
 refine av rfl (fun hc => ?_) (fun hc => ?_)
 ·have ht : dz p.text = false := by
   have h0 := jl hc
   unfold i7 at h0
   cases h1 : dz p.text
   ·rfl
   rw [h1] at h0; exact absurd rfl h0
  refine yS fun _ K5 => ?_
  refine yR ?_
  refine yM rfl rfl ?_
  refine yA rfl rfl ?_
  refine yN ?_
  dsimp only [St.put]
  refine K5 _ ?_
  refine ax ?_
  refine bf rfl (by constructor) zN zS ?_
  exact vi (by simp [cv, i7, ht])
 have ht : dz p.text = true := by
  have h0 := ie hc
  unfold i7 at h0
  cases h1 : dz p.text
  ·rw [h1] at h0; cases h0
  rfl
 refine ay ?_
 refine K2 _ ?_
 refine yS fun _ K6 => ?_
 refine yS fun _ K7 => ?_
 refine yR ?_
 refine yE rfl rfl rfl ?_
 try dsimp only [St.put]
 refine af rfl (bc rfl rfl rfl (uin p ht) ?_)
 refine aa rfl (d7 rfl rfl) ?_
 refine yN ?_
 dsimp only [St.put]
 refine K7 _ ?_
 refine av rfl (fun hc => ?_) (fun hc => ?_)
 ·have hp : gg p = false := by simpa using hc
  refine yS fun _ K8 => ?_
  refine yR ?_
  refine yA rfl rfl ?_
  refine yN ?_
  dsimp only [St.put]
  refine K8 _ ?_
  refine ax ?_
  refine bf rfl (by constructor) zN zS ?_
  exact vi (by simp [cv, ht, hp])
 have hp : gg p = true := by simpa using hc
 refine ay ?_
 refine K6 _ ?_
 refine yS fun _ K9 => ?_
 refine yR ?_
 refine yA rfl rfl ?_
 refine yN ?_
 dsimp only [St.put]
 refine K9 _ ?_
 refine ax ?_
 refine bf rfl (by constructor) zN zS ?_
 exact vi (by simp [cv, ht, hp])
end Go.Proofs.YtbbdginipiljdaaGreatDoor
namespace Go.Proofs.YtbbdginipiljdaaGreatDoor
set_option maxRecDepth 10000
open Go.RowKit Go.AB
open Go.AB.Enc (cells)
open Go.PB (ba ai PlaceD bh bj bi bw aw ah cw br dg dl)
end Go.Proofs.YtbbdginipiljdaaGreatDoor
namespace Go.Proofs.YtbbdginipiljdaaGreatDoor
set_option maxRecDepth 10000
open Go.RowKit Go.AB
open Go.AB.Enc (cells)
open Go.PB (ba ai PlaceD bh bj bi bw aw ah cw br dg dl)
end Go.Proofs.YtbbdginipiljdaaGreatDoor
namespace Go.Proofs.YtbbdginipiljdaaGreatDoor
set_option maxRecDepth 10000
open Go.RowKit Go.AB
open Go.AB.Enc (cells)
open Go.PB (ba ai PlaceD bh bj bi bw aw ah cw br dg dl)
theorem uiq (a b : List Int) (ha : a.length ≤ 1000) (hb : b.length ≤ 1000) : Pure Tryz.prog 34 [lst a, lst b] (.v (.bool (gu a b))) := by
 refine c6 Tryz.func34 rfl (fun m => .v) fun G nx => ?_
 simp only [Tryz.ntmps34, List.length_cons, List.length_nil, Nat.reduceAdd, Nat.reduceSub]
 refine cc fun hlt => ?_
 dsimp only at hlt
 refine yS fun _ K1 => ?_
 refine yR ?_
 refine yA rfl rfl ?_
 refine yN ?_
 dsimp only [St.put]
 refine K1 _ ?_
 refine yS fun _ K2 => ?_
 refine yS fun _ K3 => ?_
 refine yR ?_
 refine yM rfl rfl ?_
 refine aa rfl (bp rfl rfl (List.length_map _)) ?_
 refine yM rfl rfl ?_
 refine aa rfl (bp rfl rfl (List.length_map _)) ?_
 refine aa rfl (fl rfl rfl rfl) ?_
 refine yN ?_
 dsimp only [St.put]
 refine K3 _ ?_
 refine av rfl (fun hc => ?_) (fun hc => ?_)
 ·have hl : ¬ a.length = b.length := by
   have := jl hc
   omega
  refine yS fun _ K4 => ?_
  refine yR ?_
  refine yM rfl rfl ?_
  refine aa rfl (bp rfl rfl (List.length_map _)) ?_
  refine yM rfl rfl ?_
  refine aa rfl (bp rfl rfl (List.length_map _)) ?_
  refine aa rfl (cp rfl rfl rfl) ?_
  refine yA rfl rfl ?_
  refine yN ?_
  dsimp only [St.put]
  refine K4 _ ?_
  refine ax ?_
  refine bf rfl (by constructor) zN zS ?_
  exact vb (by simp [gu, hl])
 have hl : a.length = b.length := by
  have := ie hc
  omega
 refine ay ?_
 refine K2 _ ?_
 refine yS fun _ K5 => ?_
 refine yS fun _ K6 => ?_
 refine yR ?_
 refine yA rfl rfl ?_
 refine yN ?_
 dsimp only [St.put]
 refine K6 _ ?_
 refine bg ?_
 refine ct 6 ?_
 refine zQ ?_
 refine dd (G) zX ?_
 dsimp only
 refine dc (X := Nat) (fun k => k ≤ a.length ∧ a.take k = b.take k) (fun k => a.length - k) (fun k => [(5, .v (.int .i64 (k : Int)))]) (fun k G' => G') 0 rfl ?_ ?_ (fun _ _ h => h) ?_ ?_ ?_
 ·exact ⟨Nat.zero_le _, by simp⟩
 ·exact zF
 ·rintro k hI
  exact zL
 ·exact fun _ _ _ _ h => .inl h
 rintro k hI
 dsimp only at hI ⊢
 refine yS fun _ K7 => ?_
 refine yS fun _ K8 => ?_
 refine yR ?_
 refine yM rfl rfl ?_
 refine yM rfl rfl ?_
 refine aa rfl (bp rfl rfl (List.length_map _)) ?_
 refine aa rfl (cp rfl rfl rfl) ?_
 refine yN ?_
 dsimp only [St.put]
 refine K8 _ ?_
 refine av rfl (fun hc => ?_) (fun hc => ?_)
 ·replace hc := of_decide_eq_true hc
  obtain ⟨x, hx⟩ : ∃ x, a[k]? = some x := dp (by omega)
  obtain ⟨y, hy⟩ : ∃ y, b[k]? = some y := dp (by omega)
  refine ay ?_
  refine K7 _ ?_
  refine yS fun _ K9 => ?_
  refine bg ?_
  refine yS fun _ K10 => ?_
  refine g7 [(0, none), (1, none), (2, none), (3, none), (4, none), (5, none), (6, none), (7, none), (8, none)] (fun i => [].contains i) (fun i => [].contains i) (fun i => [0, 1, 2, 4, 5, 6, 8].contains i) [] (by kernel_rfl) (by kernel_rfl) ?_
  refine xM rfl rfl rfl rfl rfl ?_
  refine xM rfl rfl rfl rfl rfl ?_
  try dsimp only [St.put]
  refine ae rfl rfl rfl rfl (bx rfl rfl rfl rfl (bv (by assumption)) (Enc.len _)) ?_
  try dsimp only [St.put]
  refine bd rfl rfl rfl rfl (cm rfl rfl) ?_
  refine xM rfl rfl rfl rfl rfl ?_
  refine xM rfl rfl rfl rfl rfl ?_
  try dsimp only [St.put]
  refine ae rfl rfl rfl rfl (bx rfl rfl rfl rfl (bv (by assumption)) (Enc.len _)) ?_
  try dsimp only [St.put]
  refine bd rfl rfl rfl rfl (cm rfl rfl) ?_
  refine ae rfl rfl rfl rfl (fl rfl rfl rfl) ?_
  refine az ?_
  dsimp only [St.put]
  refine K10 _ ?_
  refine av rfl (fun hc => ?_) (fun hc => ?_)
  ·have hxy : x ≠ y := jl hc
   refine yS fun _ K11 => ?_
   refine g7 [(0, none), (1, none), (2, none), (3, none), (4, none), (5, none), (6, none), (7, none), (8, none), (9, none)] (fun i => [].contains i) (fun i => [].contains i) (fun i => [0, 1, 2, 4, 5, 6, 8, 9].contains i) [] (by kernel_rfl) (by kernel_rfl) ?_
   refine xM rfl rfl rfl rfl rfl ?_
   refine xM rfl rfl rfl rfl rfl ?_
   try dsimp only [St.put]
   refine ae rfl rfl rfl rfl (bx rfl rfl rfl rfl (bv (by assumption)) (Enc.len _)) ?_
   try dsimp only [St.put]
   refine bd rfl rfl rfl rfl (cm rfl rfl) ?_
   refine xM rfl rfl rfl rfl rfl ?_
   refine xM rfl rfl rfl rfl rfl ?_
   try dsimp only [St.put]
   refine ae rfl rfl rfl rfl (bx rfl rfl rfl rfl (bv (by assumption)) (Enc.len _)) ?_
   try dsimp only [St.put]
   refine bd rfl rfl rfl rfl (cm rfl rfl) ?_
   refine ae rfl rfl rfl rfl (cp rfl rfl rfl) ?_
   refine ae rfl rfl rfl rfl (fp rfl (by constructor)) ?_
   refine az ?_
   dsimp only [St.put]
   refine K11 _ ?_
   refine ax ?_
   refine bf rfl (by constructor) zN zS ?_
   exact vb (by rw [um9 hl, decide_eq_decide]; exact (uct hI.2 hx hy hxy).symm)
  have hxy : x = y := ie hc
  refine ay ?_
  refine K9 _ ?_
  refine yR ?_
  refine yM rfl rfl ?_
  refine aa rfl (bz rfl rfl rfl (by omega)) ?_
  refine yA rfl rfl ?_
  refine yN ?_
  dsimp only [St.put]
  exact ⟨k + 1, by omega, ⟨by omega, w7 hI.2 hx (hxy ▸ hy)⟩, ⟨⟨rfl, rfl⟩, zF, zB, zN, zX⟩⟩
 replace hc := of_decide_eq_false hc
 refine c7 ?_
 refine K5 _ ?_
 refine yS fun _ K12 => ?_
 refine yR ?_
 refine yA rfl rfl ?_
 refine yN ?_
 dsimp only [St.put]
 refine K12 _ ?_
 refine ax ?_
 refine bf rfl (by constructor) zN zS ?_
 exact vb (by
  have h1 := hI.2
  rw [f8 (by omega), f8 (by omega)] at h1
  rw [h1, zk])
end Go.Proofs.YtbbdginipiljdaaGreatDoor
namespace Go.AB
open Go Go.RowKit
open Go.AB.Enc (cells)
open Go.PB (ba ai PlaceD bh bj bi bw aw ah cw br)
/-! ### First and second readers change their places -/
/-! ### Errors that are missed -/
end Go.AB
namespace Go.AB
open Go Go.RowKit
open Go.AB.Enc (cells)
open Go.PB (ba ai PlaceD bh bj bi bw aw ah cw br dg dl)
def qk (R : Nat → Int) (c : Int) (l : List Int) : Int := l.foldl (fun n z => min n (R z.toNat)) c
def ky (R : Nat → Int) (n : Int) (l : List Int) : Nat → Int := l.foldl (fun R z => fun i => bif decide (i = z.toNat) then R z.toNat - n else R i) R
theorem ug1 (R : Nat → Int) (n : Int) : ky R n [] = R := rfl
theorem uj8 {R : Nat → Int} {c : Int} {l : List Int} {k : Nat} {z : Int} (h : l[k]? = some z) : qk R c (l.take (k + 1)) = min (qk R c (l.take k)) (R z.toNat) := by
 unfold qk; rw [List.take_add_one, h, Option.toList_some, List.foldl_append]; rfl
theorem ug0 {R : Nat → Int} {n : Int} {l : List Int} {k : Nat} {z : Int} (h : l[k]? = some z) : ky R n (l.take (k + 1)) = fun i => bif decide (i = z.toNat) then ky R n (l.take k) z.toNat - n else ky R n (l.take k) i := by
 unfold ky; rw [List.take_add_one, h, Option.toList_some, List.foldl_append]; rfl
theorem ung {p : ah} {j : Nat} {x : aw} (hx : p.pages[j]? = some x) (R C : Nat → Int) : (bu p).alone R C j = qk R (C j) (dt p x) := by
 simp only [Net.alone, bu, hx, dt, qk]
 by_cases q1 : 0 ≤ x.fst <;> by_cases q2 : 0 ≤ x.snd
 ·simp [q1, q2, nt, show ((p.firsts.length : Int) + x.snd).toNat = p.firsts.length + x.snd.toNat by omega]
 ·simp [q1, q2, nt]
 ·simp [q1, q2, nt, show ((p.firsts.length : Int) + x.snd).toNat = p.firsts.length + x.snd.toNat by omega]
 ·simp [q1, q2, nt]
theorem ukn {p : ah} (h : eg p) {j : Nat} {x : aw} (hx : p.pages[j]? = some x) (R : Nat → Int) (n : Int) : (bu p).lessR R j n = ky R n (dt p x) := by
 have hp := pageB_true.1 (h.page j x hx)
 have h1 := hp.fst
 have h2 := hp.snd
 funext i
 simp only [Net.lessR, Net.by, bu, hx, dt, ky]
 by_cases q1 : 0 ≤ x.fst <;> by_cases q2 : 0 ≤ x.snd
 ·have e2 : ((p.firsts.length : Int) + x.snd).toNat = p.firsts.length + x.snd.toNat := by omega
  have hne : ¬ p.firsts.length + x.snd.toNat = x.fst.toNat := by omega
  rw [decide_eq_true q1, decide_eq_true q2]
  simp only [cond_true, List.cons_append, List.nil_append, List.foldl_cons, List.foldl_nil, e2, Option.some.injEq]
  by_cases z1 : i = x.fst.toNat
  ·have z2 : ¬ i = p.firsts.length + x.snd.toNat := by omega
   simp [z1.symm, z2, Ne.symm z2]
  ·by_cases z2 : i = p.firsts.length + x.snd.toNat
   ·simp [z1, Ne.symm z1, z2, hne, Ne.symm hne]
   ·simp [z1, Ne.symm z1, z2, Ne.symm z2]
 ·rw [decide_eq_true q1, decide_eq_false q2]
  simp only [cond_true, cond_false, List.append_nil, List.foldl_cons, List.foldl_nil, Option.some.injEq]
  by_cases z1 : i = x.fst.toNat
  ·simp [z1]
  ·simp [z1, Ne.symm z1]
 ·have e2 : ((p.firsts.length : Int) + x.snd).toNat = p.firsts.length + x.snd.toNat := by omega
  rw [decide_eq_false q1, decide_eq_true q2]
  simp only [cond_true, cond_false, List.nil_append, List.foldl_cons, List.foldl_nil, e2, Option.some.injEq]
  by_cases z2 : i = p.firsts.length + x.snd.toNat
  ·simp [z2]
  ·simp [z2, Ne.symm z2]
 ·rw [decide_eq_false q1, decide_eq_false q2]
  simp
theorem zl {p : ah} {R C : Nat → Int} (hB : Bd p R C) {j : Nat} {n : Int} (h0 : 0 ≤ n) (hn : n ≤ (bu p).alone R C j) : Bd p ((bu p).lessR R j n) (er C j) := by
 refine ⟨fun i => ?_, fun k => ?_, hB.nr, hB.np⟩
 ·unfold Net.lessR
  cases hb : (bu p).by j i
  ·exact hB.r i
  ·have h1 := (Net.le_alone.1 hn).2 i hb
   have h2 := hB.r i
   show -1000000 ≤ R i - n ∧ R i - n ≤ 1000000
   omega
 ·unfold er
  cases decide (k = j)
  ·exact hB.c k
  ·exact ⟨Int.le_refl _, by show (0 : Int) ≤ 1000000; omega⟩
/-- what is above has been looked at -/
def FromTop (p : ah) (R C : Nat → Int) (j : Nat) (n : Int) : Prop := (bu p).pick R C j ≤ n ∧ n ≤ (bu p).alone R C j ∧ ∀ m, n < m → m ≤ (bu p).alone R C j → ¬ (bu p).most R C ≤ m + (bu p).most ((bu p).lessR R j m) (er C j)
theorem FromTop.start {p : ah} {R C : Nat → Int} {j : Nat} (h : (bu p).Pick R C j ((bu p).pick R C j)) : FromTop p R C j ((bu p).alone R C j) := ⟨h.le, Int.le_refl _, fun m h1 h2 => by omega⟩
theorem FromTop.stop {p : ah} {R C : Nat → Int} {j : Nat} {n : Int} (h : (bu p).Pick R C j ((bu p).pick R C j)) (k : FromTop p R C j n) (hs : (bu p).most R C ≤ n + (bu p).most ((bu p).lessR R j n) (er C j)) : n = (bu p).pick R C j :=
 Net.Pick.uniq ⟨Int.le_trans h.nn k.1, k.2.1, hs, k.2.2⟩ h
theorem FromTop.down {p : ah} {R C : Nat → Int} {j : Nat} {n : Int} (h : (bu p).Pick R C j ((bu p).pick R C j)) (k : FromTop p R C j n) (hs : ¬ (bu p).most R C ≤ n + (bu p).most ((bu p).lessR R j n) (er C j)) : FromTop p R C j (n - 1) := by
 refine ⟨?_, by have := k.2.1; omega, fun m h1 h2 => ?_⟩
 ·have h1 := k.1
  by_cases e : n = (bu p).pick R C j
  ·subst e
   exact absurd h.ok hs
  ·omega
 ·by_cases e : m = n
  ·subst e; exact hs
  ·exact k.2.2 m (by omega) h2
end Go.AB
namespace Go.AB
open Go Go.RowKit
open Go.AB.Enc (cells)
section
variable {P : Program} {o : Oper} {st : St} {K : St → Prop}
/-- An empty slice that is built: owned. -/
theorem uma {t e : TypeId} {sz bytes : Nat} [AppT P t e sz bytes] (ho : o.op = .buildSlice t 0 #[]) (hsz1 : 1 ≤ sz) (h : K (St.put { st with G := ak st.G st.nx (.arr 0 0 e sz 0 []), nx := st.nx + 1 } o.dst (.own st.nx 0 0))) : EStep P o st K :=
 j6 fun E w a hsim => by
  obtain ⟨ht, i, z, hie, hz, h1, h2, h3⟩ := AppT.spec (P := P) (t := t) (e := e) (sz := sz) (bytes := bytes)
  obtain ⟨ob, hob⟩ : ∃ ob, ob = Obj.cells #[] e := ⟨_, rfl⟩
  have hev := Ev.laid hsim.g (o := ob) 0 (.inl rfl)
  have hg := SimG.laid hsim.g (o := ob) 0 (.inl rfl)
  have hnew : (w.alloc ob).heap[w.heap.size]? = some ob := qs w ob
  have hsz : (w.alloc ob).heap.size = w.heap.size + 1 := by simp
  have hold : ∀ n tt b, (E.lay w.heap.size 0).T n = some tt → blk tt.2.2 = some b → b < w.heap.size := fun n tt b h5 h6 => (hsim.g.tb n _ _ _ b h5 h6).2
  have hnx := hsim.g.nx
  have hfr : ∀ b o', blk (.slice (some ⟨w.heap.size, 0, none⟩) 0 0) = some b → w.heap[b]? = some o' → False := fun b o' hbk ho' => by
   simp only [blk, Option.some.injEq] at hbk
   subst hbk
   have := (Array.getElem?_eq_some_iff.1 ho').1
   omega
  have hev2 := hev.thenName (.slice (some ⟨w.heap.size, 0, none⟩) 0 0) hfr
  have hg2 := SimG.name hg (.slice (some ⟨w.heap.size, 0, none⟩) 0 0) (.arr 0 0 e sz 0 []) (fun b hbk => by
   simp only [blk, Option.some.injEq] at hbk
   subst hbk
   exact ⟨hsim.g.base, by rw [hsz]; omega, fun n tt h5 h6 => absurd (hold n tt _ h5 h6) (by omega)⟩) (by
   refine ⟨.slice (some ⟨w.heap.size, 0, none⟩) 0 0, [], ?_, ⟨by simp, .inr ⟨w.heap.size, 0, _, rfl, hsim.g.base, hnew.trans (by rw [hob]), Nat.le_refl _, Nat.zero_le _, by simp, by simp⟩⟩, fun c hc => (by cases hc), Rs.nil, fun b hbk => ?_, hsz1⟩
   ·simp [Env.name, Env.lay, hnx]
   ·simp only [blk, Option.some.injEq] at hbk
    subst hbk
    simp [Env.name, Env.lay])
  refine ⟨.slice (some ⟨w.heap.size, 0, none⟩) 0 0, w.alloc ob, _, _, _, .own st.nx 0 0, ?_, hev2, ?_, hg2, h⟩
  ·subst hob
   simp [execOp, ho, Instr.buildSlice, run_underlying ht, sizeOf, typeInfo, hie, Instr.fill, newRow, newObj, Sem.run, show (Array.map (fun _ => (default : Value)) (Array.range 0)) = #[] from by simp]
  ·refine R.own (by simp [Env.name, Env.lay]; omega) (Nat.le_refl _) (Nat.zero_le _) fun ver wv val htt => ?_
   simp only [Env.name, Env.lay, hnx, if_true, Option.some.injEq, Prod.mk.injEq] at htt
   obtain ⟨rfl, rfl, rfl⟩ := htt
   exact ⟨Nat.le_refl _, fun _ => ⟨_, Nat.le_refl _, rfl⟩⟩
end
end Go.AB
namespace Go.AB
open Go Go.RowKit
open Go.AB.Enc (cells)
variable {ρ : Option Nat}
section
variable {P : Program} {Q : Exit → St → Prop} {st : St}
end
section
variable {P : Program} {o : Oper} {st : St} {K : St → Prop}
end
end Go.AB
namespace Go.AB
open Go Go.RowKit
/-- What stands in a slot is known less well. -/
theorem ra {ρ : Option Nat} {P : Program} {Q : Exit → St → Prop} {st : St} {x : Code} (i : Nat) {c : C} (c' : C) (h0 : st.at i = c) (hw : Wk c c') (h : AW ρ P x Q { st with r := (i, c') :: st.r }) : AW ρ P x Q st := by
 intro E w a hs
 have hp := hs.at i
 rw [h0] at hp
 refine h E w a ⟨hs.d, hs.sz, fun j v hj => ?_, hs.g⟩
 simp only [du]
 cases hb : Nat.beq i j
 ·exact hs.t j v hj
 ·have hij := Nat.eq_of_beq_eq_true hb
  subst hij
  have hv : a.tmps.getD i undef = v := by rw [Array.getD_eq_getD_getElem?, hj]; rfl
  rw [hv] at hp
  exact hw.2 _ _ _ hp
end Go.AB
namespace Go.AB
open Go Go.RowKit
open Go.AB.Enc (cells)
open Go.PB (ba ai PlaceD bh bj bi bw aw ah cw br dg dl)
theorem uls {l : List Int} {k : Nat} {z : Int} (h : l[k]? = some z) : (dq l)[k]? = some (.v (.int .i64 z)) := by
 have e : dq l = l.map fun y => .v (.int .i64 y) := by
  clear h
  induction l with
  | nil => rfl
  | cons y l ih =>
   have h1 : dq (y :: l) = cells y ++ dq l := by simp [dq]
   rw [h1, ih]; rfl
 rw [e, List.getElem?_map, h]; rfl
end Go.AB
namespace Go.Proofs.YtbbdginipiljdaaGreatDoor
set_option maxRecDepth 10000
open Go.RowKit Go.AB
open Go.AB.Enc (cells)
open Go.PB (ba ai PlaceD bh bj bi bw aw ah cw br dg dl)
theorem xm {p : ah} (h : eg p) {j : Nat} {x : aw} (hx : p.pages[j]? = some x) {k : Nat} (hk : k < (dt p x).length) : ∃ zn : Nat, (dt p x)[k]? = some (zn : Int) ∧ zn < bt p := by
 have hp := pageB_true.1 (h.page j x hx)
 have h1 := hp.fst
 have h2 := hp.snd
 obtain ⟨z, hz⟩ : ∃ z, (dt p x)[k]? = some z := ⟨_, List.getElem?_eq_getElem hk⟩
 have hm := List.mem_of_getElem? hz
 have hb : 0 ≤ z ∧ z < (bt p : Int) := by
  unfold dt at hm
  unfold bt
  rw [List.mem_append] at hm
  rcases hm with hm | hm
  ·by_cases q : 0 ≤ x.fst
   ·rw [decide_eq_true q, cond_true, List.mem_singleton] at hm; omega
   rw [decide_eq_false q] at hm; cases hm
  by_cases q : 0 ≤ x.snd
  ·rw [decide_eq_true q, cond_true, List.mem_singleton] at hm; omega
  rw [decide_eq_false q] at hm; cases hm
 exact ⟨z.toNat, by rw [hz]; congr 1; omega, by omega⟩
end Go.Proofs.YtbbdginipiljdaaGreatDoor
namespace Go.AB
open Go Go.RowKit
open Go.AB.Enc (cells)
open Go.PB (ba ai PlaceD bh bj bi bw aw ah cw br dg dl)
theorem uey (r : Int) (s i : Nat) : r * ((s / 2 ^ i % 2 : Nat) : Int) = bif s.testBit i then r else 0 := by
 have h2 : s / 2 ^ i % 2 < 2 := Nat.mod_lt _ (by omega)
 cases hb : s.testBit i
 ·have : s / 2 ^ i % 2 = 0 := by
   have : ¬ ((s / 2 ^ i % 2 : Nat) : Int) = 1 := fun e => by
    have := bit_eq.1 e
    rw [hb] at this; cases this
   omega
  rw [this]; simp
 have : s / 2 ^ i % 2 = 1 := by have := bit_eq.2 hb; omega
 rw [this]; simp
theorem um1 (s i : Nat) : decide (((s / 2 ^ i % 2 : Nat) : Int) = 1) = s.testBit i := by
 rw [Bool.eq_iff_iff, decide_eq_true_eq]
 exact bit_eq
theorem uih {p : ah} (h : eg p) {j : Nat} {x : aw} (hx : p.pages[j]? = some x) {z : Int} (hz : z ∈ dt p x) : ∃ zn : Nat, z = (zn : Int) ∧ zn ≤ 6 := by
 obtain ⟨k, hk⟩ := List.getElem?_of_mem hz
 obtain ⟨zn, h1, h2⟩ := uig h hx (List.getElem?_eq_some_iff.1 hk).1
 rw [hk] at h1
 cases h1
 exact ⟨zn, rfl, h2⟩
theorem un {p : ah} {j : Nat} {x : aw} (hx : p.pages[j]? = some x) : (p.pages.map (dt p))[j]? = some (dt p x) := by rw [List.getElem?_map, hx]; rfl
end Go.AB
namespace Go.Proofs.YtbbdginipiljdaaGreatDoor
set_option maxRecDepth 10000
open Go.RowKit Go.AB
open Go.AB.Enc (cells)
open Go.PB (ba ai PlaceD bh bj bi bw aw ah cw br dg dl)
theorem ui5 (k s : Nat) (hk : k ≤ 64) (hs : s ≤ 1000) : Pure Tryz.prog 91 [.v (.int .i64 (k : Int)), .elem [.v (.int .i64 (s : Int))]] (.v (.bool (s.testBit k))) := by
 refine c6 Tryz.func91 rfl (fun m => .v) fun G nx => ?_
 simp only [Tryz.ntmps91, List.length_cons, List.length_nil, Nat.reduceAdd, Nat.reduceSub]
 refine cc fun hlt => ?_
 dsimp only at hlt
 refine yS fun _ K1 => ?_
 refine yR ?_
 refine yA rfl rfl ?_
 refine yN ?_
 dsimp only [St.put]
 refine K1 _ ?_
 refine yS fun _ K2 => ?_
 refine yR ?_
 refine yL rfl rfl rfl ?_
 refine yM rfl rfl ?_
 refine aa rfl (si (m := s) (n := k) rfl rfl rfl hk (by show (s : Int) ≤ 9223372036854775807; omega) (by decide)) ?_
 refine aa rfl (sl (m := s / 2 ^ k) rfl rfl rfl (Nat.lt_of_le_of_lt (Nat.div_le_self _ _) (by show s < 2 ^ 64; omega)) (by decide)) ?_
 refine aa rfl (fm rfl rfl rfl) ?_
 refine yA rfl rfl ?_
 refine yN ?_
 dsimp only [St.put]
 refine K2 _ ?_
 refine ax ?_
 refine bf rfl (by constructor) zN zS ?_
 exact vb (um1 s k)
set_option maxHeartbeats 1000000 in
theorem ubr (p : ah) (R C : Nat → Int) (s : Nat) (h : eg p) (hB : Bd p R C) (hs : s ≤ 1000) : Pure Tryz.prog 56 [val (gl p R C), .v (.int .i64 (s : Int))] (.v (.int .i64 ((bu p).f R C fun i => s.testBit i))) := by
 refine c6 Tryz.func56 rfl (fun m => .v) fun G nx => ?_
 simp only [Tryz.ntmps56, List.length_cons, List.length_nil, Nat.reduceAdd, Nat.reduceSub]
 refine cc fun hlt => ?_
 dsimp only at hlt
 have hnr := hB.nr
 have hnp := hB.np
 have hl1 := g3 (bt p) R
 have hl2 := g3 p.pages.length C
 refine yS fun _ K1 => ?_
 refine yR ?_
 try dsimp only [St.put]
 refine yB rfl rfl rfl ?_
 try dsimp only [St.put]
 refine yB rfl rfl rfl ?_
 refine yA rfl rfl ?_
 refine yN ?_
 dsimp only [St.put]
 refine K1 _ ?_
 refine yS fun _ K2 => ?_
 refine yR ?_
 refine yA rfl rfl ?_
 refine yN ?_
 dsimp only [St.put]
 refine K2 _ ?_
 refine yS fun _ K3 => ?_
 refine yS fun _ K4 => ?_
 refine yR ?_
 refine yF rfl rfl rfl rfl ?_
 refine yL rfl rfl rfl ?_
 refine aa rfl (bp rfl rfl (List.length_map _)) ?_
 refine yM rfl rfl ?_
 refine yN ?_
 dsimp only [St.put]
 refine K4 _ ?_
 refine bg ?_
 refine ct 14 ?_
 refine zQ ?_
 refine dd (G) zX ?_
 dsimp only
 refine dc (X := Nat) (fun i => i ≤ bt p) (fun i => bt p - i) (fun i => [(5, .v (.int .i64 (fR R (fun i => s.testBit i) i))), (6, .any), (7, .any), (13, .v (.int .i64 (i : Int)))]) (fun i G' => G') 0 rfl ?_ ?_ (fun _ _ h => h) ?_ ?_ ?_
 ·exact Nat.zero_le _
 ·exact zF
 ·rintro i hI
  exact zL
 ·exact fun _ _ _ _ h => .inl h
 rintro i hI
 dsimp only at hI ⊢
 refine yS fun _ K5 => ?_
 refine yR ?_
 refine aa rfl (cp rfl rfl rfl) ?_
 refine yN ?_
 dsimp only [St.put]
 refine K5 _ ?_
 refine yS fun _ K6 => ?_
 refine av rfl (fun hc => ?_) (fun hc => ?_)
 ·replace hc := of_decide_eq_true hc
  have hi : i < bt p := by
   have : (i : Int) < ((bn (bt p) R).length : Int) := hc
   rw [hl1] at this
   omega
  have hRi := ke R hi
  have hbd := y4 hB (fun i => s.testBit i) i (by omega)
  have hrb := hB.r i
  have hmb : -1000000 ≤ R i * ((s / 2 ^ i % 2 : Nat) : Int) ∧ R i * ((s / 2 ^ i % 2 : Nat) : Int) ≤ 1000000 := by
   rw [uey]
   cases s.testBit i
   ·show -1000000 ≤ (0 : Int) ∧ (0 : Int) ≤ 1000000
    omega
   exact hrb
  refine ay ?_
  refine K6 _ ?_
  refine yS fun _ K7 => ?_
  refine bg ?_
  refine yS fun _ K8 => ?_
  refine yR ?_
  refine yM rfl rfl ?_
  refine aa rfl (bx rfl rfl rfl rfl (bv (by assumption)) (Enc.len _)) ?_
  refine yL rfl rfl rfl ?_
  refine yA rfl rfl ?_
  refine yA rfl rfl ?_
  refine yN ?_
  dsimp only [St.put]
  refine K8 _ ?_
  refine yR ?_
  refine yM rfl rfl ?_
  refine yM rfl rfl ?_
  refine yL rfl rfl rfl ?_
  refine yM rfl rfl ?_
  refine aa rfl (si (m := s) (n := i) rfl rfl rfl (by show i ≤ 64; omega) (by show (s : Int) ≤ 9223372036854775807; omega) (by decide)) ?_
  refine aa rfl (sl (m := s / 2 ^ i) rfl rfl rfl (Nat.lt_of_le_of_lt (Nat.div_le_self _ _) (by show s < 2 ^ 64; omega)) (by decide)) ?_
  refine aa rfl (x9 rfl rfl rfl (by omega)) ?_
  refine aa rfl (bz rfl rfl rfl (by omega)) ?_
  refine yA rfl rfl ?_
  refine yN ?_
  dsimp only [St.put]
  refine K7 _ ?_
  refine yR ?_
  refine aa rfl (bz rfl rfl rfl (by omega)) ?_
  refine yM rfl rfl ?_
  refine yN ?_
  dsimp only [St.put]
  rw [uey, ← ulx R (fun i => s.testBit i) i]
  exact ⟨i + 1, by omega, by omega, ⟨⟨rfl, rfl⟩, zF, zB, zN, zX⟩⟩
 replace hc := of_decide_eq_false hc
 obtain rfl : i = bt p := by
  have : ¬ (i : Int) < ((bn (bt p) R).length : Int) := hc
  rw [hl1] at this
  omega
 have hfr := y4 hB (fun i => s.testBit i) _ (Nat.le_refl (bt p))
 obtain ⟨FR, hFR⟩ : ∃ FR, fR R (fun i => s.testBit i) (bt p) = FR := ⟨_, rfl⟩
 rw [hFR] at hfr
 refine c7 ?_
 refine K3 _ ?_
 refine yS fun _ K9 => ?_
 refine yS fun _ K10 => ?_
 refine yR ?_
 refine yF rfl rfl rfl rfl ?_
 refine yL rfl rfl rfl ?_
 refine aa rfl (bp rfl rfl (List.length_map _)) ?_
 refine yM rfl rfl ?_
 refine yN ?_
 dsimp only [St.put]
 rw [hFR, show FR = FR + fC p C (fun i => s.testBit i) 0 by show FR = FR + 0; omega]
 refine K10 _ ?_
 refine bg ?_
 refine ct 31 ?_
 refine zQ ?_
 refine dd (G) zX ?_
 dsimp only
 refine dc (X := Nat) (fun j => j ≤ p.pages.length) (fun j => p.pages.length - j) (fun j => [(5, .v (.int .i64 (FR + fC p C (fun i => s.testBit i) j))), (8, .any), (9, .any), (30, .v (.int .i64 (j : Int)))]) (fun j G' => G') 0 rfl ?_ ?_ (fun _ _ h => h) ?_ ?_ ?_
 ·exact Nat.zero_le _
 ·exact zF
 ·rintro j hI
  exact zL
 ·exact fun _ _ _ _ h => .inl h
 rintro j hJ
 dsimp only at hJ ⊢
 refine yS fun _ K11 => ?_
 refine yR ?_
 refine aa rfl (cp rfl rfl rfl) ?_
 refine yN ?_
 dsimp only [St.put]
 refine K11 _ ?_
 refine yS fun _ K12 => ?_
 refine av rfl (fun hc => ?_) (fun hc => ?_)
 ·replace hc := of_decide_eq_true hc
  have hj : j < p.pages.length := by
   have : (j : Int) < ((bn p.pages.length C).length : Int) := hc
   rw [hl2] at this
   omega
  obtain ⟨x, hx⟩ : ∃ x, p.pages[j]? = some x := dp hj
  have hrx := un hx
  have hCj := ke C hj
  have hcb := hB.c j
  have hfc := ud3 hB (fun i => s.testBit i) j (by omega)
  have hhit := udh hx fun i => s.testBit i
  refine ay ?_
  refine K12 _ ?_
  refine yS fun _ K13 => ?_
  refine bg ?_
  refine yS fun _ K14 => ?_
  refine yR ?_
  refine yM rfl rfl ?_
  refine aa rfl (bx rfl rfl rfl rfl (bv (by assumption)) (Enc.len _)) ?_
  refine yL rfl rfl rfl ?_
  refine yA rfl rfl ?_
  refine yA rfl rfl ?_
  refine yN ?_
  dsimp only [St.put]
  refine K14 _ ?_
  refine yS fun _ K15 => ?_
  refine yR ?_
  refine yF rfl rfl rfl rfl ?_
  refine yL rfl rfl rfl ?_
  refine yM rfl rfl ?_
  refine aa rfl (bx rfl rfl rfl rfl (bv (by assumption)) (Enc.len _)) ?_
  refine yL rfl rfl rfl ?_
  refine aa rfl (po rfl rfl) ?_
  try dsimp only [St.put]
  refine af rfl (bc rfl rfl rfl (wj (dt p x) (fun z => s.testBit z.toNat) _ _ fun z hz => by obtain ⟨zn, rfl, h6⟩ := uih h hx hz; exact ui5 zn s (by omega) hs) ?_)
  refine aa rfl (d7 rfl rfl) ?_
  refine yN ?_
  dsimp only [St.put]
  refine K15 _ ?_
  refine av rfl (fun hc => ?_) (fun hc => ?_)
  ·have hhn : (bu p).hit (fun i => s.testBit i) j = false := by rw [hhit]; simpa using hc
   refine yR ?_
   refine yM rfl rfl ?_
   refine yM rfl rfl ?_
   refine aa rfl (bz rfl rfl rfl (by omega)) ?_
   refine yA rfl rfl ?_
   refine yN ?_
   dsimp only [St.put]
   refine K13 _ ?_
   refine yR ?_
   refine aa rfl (bz rfl rfl rfl (by omega)) ?_
   refine yM rfl rfl ?_
   refine yN ?_
   dsimp only [St.put]
   have e := ud2 p C (fun i => s.testBit i) j
   first
   | (have z : (bu p).hit (fun i => s.testBit i) j = true := hhy
      rw [z, cond_true, Int.add_zero] at e
      rw [← e]
      exact ⟨j + 1, by omega, by omega, ⟨⟨rfl, rfl⟩, zF, zB, zN, zX⟩⟩)
   | (have z : (bu p).hit (fun i => s.testBit i) j = false := hhn
      rw [z, cond_false] at e
      rw [Int.add_assoc, ← e]
      exact ⟨j + 1, by omega, by omega, ⟨⟨rfl, rfl⟩, zF, zB, zN, zX⟩⟩)
  have hhy : (bu p).hit (fun i => s.testBit i) j = true := by rw [hhit]; simpa using hc
  refine ay ?_
  refine K13 _ ?_
  refine yR ?_
  refine aa rfl (bz rfl rfl rfl (by omega)) ?_
  refine yM rfl rfl ?_
  refine yN ?_
  dsimp only [St.put]
  have e := ud2 p C (fun i => s.testBit i) j
  first
  | (have z : (bu p).hit (fun i => s.testBit i) j = true := hhy
     rw [z, cond_true, Int.add_zero] at e
     rw [← e]
     exact ⟨j + 1, by omega, by omega, ⟨⟨rfl, rfl⟩, zF, zB, zN, zX⟩⟩)
  | (have z : (bu p).hit (fun i => s.testBit i) j = false := hhn
     rw [z, cond_false] at e
     rw [Int.add_assoc, ← e]
     exact ⟨j + 1, by omega, by omega, ⟨⟨rfl, rfl⟩, zF, zB, zN, zX⟩⟩)
 replace hc := of_decide_eq_false hc
 obtain rfl : j = p.pages.length := by
  have : ¬ (j : Int) < ((bn p.pages.length C).length : Int) := hc
  rw [hl2] at this
  omega
 refine c7 ?_
 refine K9 _ ?_
 refine yS fun _ K16 => ?_
 refine yR ?_
 refine yM rfl rfl ?_
 refine yA rfl rfl ?_
 refine yN ?_
 dsimp only [St.put]
 refine K16 _ ?_
 refine ax ?_
 refine bf rfl (by constructor) zN zS ?_
 exact vi (by rw [udy, hFR])
set_option maxHeartbeats 1000000 in
theorem sb (p : ah) (R C : Nat → Int) (h : eg p) (hB : Bd p R C) : Pure Tryz.prog 48 [val (gl p R C)] (.v (.int .i64 ((bu p).most R C))) := by
 refine c6 Tryz.func48 rfl (fun m => .v) fun G nx => ?_
 simp only [Tryz.ntmps48, List.length_cons, List.length_nil, Nat.reduceAdd, Nat.reduceSub]
 refine cc fun hlt => ?_
 dsimp only at hlt
 have hnr := hB.nr
 have hl1 := g3 (bt p) R
 have h64 : 2 ^ bt p ≤ 2 ^ 6 := Nat.pow_le_pow_right (by omega) hnr
 have hpos : 0 < 2 ^ bt p := Nat.two_pow_pos _
 obtain ⟨g, hg⟩ : ∃ g : Nat → Int, (fun s => (bu p).f R C fun i => s.testBit i) = g := ⟨_, rfl⟩
 have hgs : ∀ s : Nat, (bu p).f R C (fun i => s.testBit i) = g s := fun s => congrFun hg s
 have hP : ∀ s : Nat, s ≤ 1000 → Pure Tryz.prog 56 [val (gl p R C), .v (.int .i64 (s : Int))] (.v (.int .i64 (g s))) := fun s hs => by
  have := ubr p R C s h hB hs
  rwa [hgs] at this
 have hgb : ∀ s, -6000000 ≤ g s ∧ g s ≤ 14000000 := fun s => by rw [← hgs]; exact f_bd hB _
 refine yS fun _ K1 => ?_
 refine yR ?_
 try dsimp only [St.put]
 refine yB rfl rfl rfl ?_
 refine yA rfl rfl ?_
 refine yN ?_
 dsimp only [St.put]
 refine K1 _ ?_
 refine yS fun _ K2 => ?_
 refine yR ?_
 try dsimp only [St.put]
 refine ck rfl (c := val (gl p R C)) (j0 (cs := cells (gl p R C)) rfl rfl (show 3 ≤ 3 by decide)) ?_
 try dsimp only [St.put]
 refine af rfl (bc rfl rfl rfl (hP 0 (by omega)) ?_)
 refine yA rfl rfl ?_
 refine yN ?_
 dsimp only [St.put]
 refine K2 _ ?_
 refine yS fun _ K3 => ?_
 refine yS fun _ K4 => ?_
 refine yR ?_
 refine yF rfl rfl rfl rfl ?_
 refine yL rfl rfl rfl ?_
 refine aa rfl (bp rfl rfl (List.length_map _)) ?_
 refine aa rfl (ucc (n := (bn (bt p) R).length) rfl rfl rfl (by rw [hl1]; omega)) ?_
 refine yM rfl rfl ?_
 refine yN ?_
 dsimp only [St.put]
 refine K4 _ ?_
 refine bg ?_
 refine ct 12 ?_
 refine zQ ?_
 refine dd (G) zX ?_
 dsimp only
 refine dc (X := Nat) (fun s => s ≤ 2 ^ bt p) (fun s => 2 ^ bt p - s) (fun s => [(3, .v (.int .i64 (lv g s))), (4, .any), (11, .v (.int .i64 (s : Int)))]) (fun s G' => G') 0 rfl ?_ ?_ (fun _ _ h => h) ?_ ?_ ?_
 ·exact Nat.zero_le _
 ·exact zF
 ·rintro s hI
  exact zL
 ·exact fun _ _ _ _ h => .inl h
 rintro s hI
 dsimp only at hI ⊢
 refine yS fun _ K5 => ?_
 refine yR ?_
 refine aa rfl (cp rfl rfl rfl) ?_
 refine yN ?_
 dsimp only [St.put]
 refine K5 _ ?_
 refine yS fun _ K6 => ?_
 refine av rfl (fun hc => ?_) (fun hc => ?_)
 ·replace hc := of_decide_eq_true hc
  have hlt : s < 2 ^ bt p := by
   have : (s : Int) < ((2 ^ (bn (bt p) R).length : Nat) : Int) := hc
   rw [hl1] at this
   omega
  have hmb := ucm hgb s
  have hgb1 := hgb s
  refine ay ?_
  refine K6 _ ?_
  refine yS fun _ K7 => ?_
  refine bg ?_
  refine yS fun _ K8 => ?_
  refine yR ?_
  refine yM rfl rfl ?_
  refine yA rfl rfl ?_
  refine yN ?_
  dsimp only [St.put]
  refine K8 _ ?_
  refine yR ?_
  refine yM rfl rfl ?_
  try dsimp only [St.put]
  refine ck rfl (c := val (gl p R C)) (j0 (cs := cells (gl p R C)) rfl rfl (show 3 ≤ 3 by decide)) ?_
  refine yM rfl rfl ?_
  try dsimp only [St.put]
  refine af rfl (bc rfl rfl rfl (hP s (by omega)) ?_)
  refine aa rfl (ucf rfl rfl rfl rfl) ?_
  refine yA rfl rfl ?_
  refine yN ?_
  dsimp only [St.put]
  refine K7 _ ?_
  refine yR ?_
  refine aa rfl (bz rfl rfl rfl (by omega)) ?_
  refine yM rfl rfl ?_
  refine yN ?_
  dsimp only [St.put]
  rw [show min (lv g s) (g s) = lv g (s + 1) from rfl]
  exact ⟨s + 1, by omega, by omega, ⟨⟨rfl, rfl⟩, zF, zB, zN, zX⟩⟩
 replace hc := of_decide_eq_false hc
 obtain rfl : s = 2 ^ bt p := by
  have : ¬ (s : Int) < ((2 ^ (bn (bt p) R).length : Nat) : Int) := hc
  rw [hl1] at this
  omega
 refine c7 ?_
 refine K3 _ ?_
 refine yS fun _ K9 => ?_
 refine yR ?_
 refine yM rfl rfl ?_
 refine yA rfl rfl ?_
 refine yN ?_
 dsimp only [St.put]
 refine K9 _ ?_
 refine ax ?_
 refine bf rfl (by constructor) zN zS ?_
 exact vi (by unfold Net.most; rw [hg]; rfl)
theorem ubs (p : ah) (R C : Nat → Int) (j : Nat) (x : aw) (h : eg p) (hx : p.pages[j]? = some x) : Pure Tryz.prog 43 [val (gl p R C), .v (.int .i64 (j : Int))] (.v (.int .i64 ((bu p).alone R C j))) := by
 refine c6 Tryz.func43 rfl (fun m => .v) fun G nx => ?_
 simp only [Tryz.ntmps43, List.length_cons, List.length_nil, Nat.reduceAdd, Nat.reduceSub]
 refine cc fun hlt => ?_
 dsimp only at hlt
 have hjl := (List.getElem?_eq_some_iff.1 hx).1
 have hCj := ke C hjl
 have hrx := un hx
 have hn1 := h.nf
 have hn2 := h.ns
 have hnr : bt p = p.firsts.length + p.seconds.length := rfl
 have hrl := xn p x
 refine yS fun _ K1 => ?_
 refine yR ?_
 try dsimp only [St.put]
 refine yB rfl rfl rfl ?_
 refine yA rfl rfl ?_
 refine yN ?_
 dsimp only [St.put]
 refine K1 _ ?_
 refine yS fun _ K2 => ?_
 refine yR ?_
 refine yF rfl rfl rfl rfl ?_
 refine yL rfl rfl rfl ?_
 refine yM rfl rfl ?_
 refine aa rfl (bx rfl rfl rfl rfl (bv (by assumption)) (Enc.len _)) ?_
 refine yL rfl rfl rfl ?_
 refine yA rfl rfl ?_
 refine yN ?_
 dsimp only [St.put]
 refine K2 _ ?_
 refine yS fun _ K3 => ?_
 refine yS fun _ K4 => ?_
 refine yR ?_
 refine yF rfl rfl rfl rfl ?_
 refine yL rfl rfl rfl ?_
 refine yM rfl rfl ?_
 refine aa rfl (bx rfl rfl rfl rfl (bv (by assumption)) (Enc.len _)) ?_
 refine yL rfl rfl rfl ?_
 refine aa rfl (bp rfl rfl (List.length_map _)) ?_
 refine yM rfl rfl ?_
 refine yN ?_
 dsimp only [St.put]
 refine K4 _ ?_
 refine bg ?_
 refine ct 20 ?_
 refine zQ ?_
 refine dd (G) zX ?_
 dsimp only
 refine dc (X := Nat) (fun k => k ≤ (dt p x).length) (fun k => (dt p x).length - k) (fun k => [(5, .v (.int .i64 (qk R (C j) ((dt p x).take k)))), (7, .any), (19, .v (.int .i64 (k : Int)))]) (fun k G' => G') 0 rfl ?_ ?_ (fun _ _ h => h) ?_ ?_ ?_
 ·exact Nat.zero_le _
 ·exact zF
 ·rintro k hI
  exact zL
 ·exact fun _ _ _ _ h => .inl h
 rintro k hI
 dsimp only at hI ⊢
 refine yS fun _ K5 => ?_
 refine yR ?_
 refine aa rfl (cp rfl rfl rfl) ?_
 refine yN ?_
 dsimp only [St.put]
 refine K5 _ ?_
 refine yS fun _ K6 => ?_
 refine av rfl (fun hc => ?_) (fun hc => ?_)
 ·replace hc := of_decide_eq_true hc
  obtain ⟨zn, hz, hz6⟩ := xm h hx (k := k) (by omega)
  have hRz := ke R hz6
  refine ay ?_
  refine K6 _ ?_
  refine yS fun _ K7 => ?_
  refine bg ?_
  refine yS fun _ K8 => ?_
  refine yR ?_
  refine aa rfl (bx rfl rfl rfl rfl (bv (by assumption)) (Enc.len _)) ?_
  refine yL rfl rfl rfl ?_
  refine yA rfl rfl ?_
  refine yN ?_
  dsimp only [St.put]
  refine K8 _ ?_
  refine yR ?_
  refine yM rfl rfl ?_
  refine yF rfl rfl rfl rfl ?_
  refine yL rfl rfl rfl ?_
  refine yM rfl rfl ?_
  refine aa rfl (bx rfl rfl rfl rfl (bv (by assumption)) (Enc.len _)) ?_
  refine yL rfl rfl rfl ?_
  refine aa rfl (ucf rfl rfl rfl rfl) ?_
  refine yA rfl rfl ?_
  refine yN ?_
  dsimp only [St.put]
  refine K7 _ ?_
  refine yR ?_
  refine aa rfl (bz rfl rfl rfl (by omega)) ?_
  refine yM rfl rfl ?_
  refine yN ?_
  dsimp only [St.put]
  have e := uj8 (R := R) (c := C j) hz
  rw [Int.toNat_natCast] at e
  rw [← e]
  exact ⟨k + 1, by omega, by omega, ⟨⟨rfl, rfl⟩, zF, zB, zN, zX⟩⟩
 replace hc := of_decide_eq_false hc
 refine c7 ?_
 refine K3 _ ?_
 refine yS fun _ K9 => ?_
 refine yR ?_
 refine yM rfl rfl ?_
 refine yA rfl rfl ?_
 refine yN ?_
 dsimp only [St.put]
 refine K9 _ ?_
 refine ax ?_
 refine bf rfl (by constructor) zN zS ?_
 exact vi (by rw [f8 (show (dt p x).length ≤ k by omega), ung hx])
end Go.Proofs.YtbbdginipiljdaaGreatDoor
namespace Go.AB
open Go Go.RowKit
open Go.AB.Enc (cells)
section
variable {P : Program} {o : Oper} {st : St} {K : St → Prop}
/-- append to a slice without room: a copy, owned. -/
theorem ueh {α : Type} [Enc α] {t e : TypeId} {bytes : Nat} [AppT P t e (Enc.n α) bytes] {s x : Operand} {tok tk : Tok} {rows : List (List C)} (ys : List α) (ho : o.op = .call { callee := .builtin .append, args := #[s, x], argTypes := #[t, t] }) (hs : evC st s = .list [] tok) (htok : tok = .zero ∨ tok = .nil) (hx : evC st x = .list rows tk) (hy : rows = ys.map cells) (hne : ys ≠ []) (hn : 1 ≤ Enc.n α) (hb : ys.length * bytes ≤ 140737488355328) (hm : ys.length ≤ 9223372036854775807)
  (h : K (St.put { st with G := ak st.G st.nx (.arr 0 0 e (Enc.n α) ys.length (dq ys)), nx := st.nx + 1 } o.dst (.own st.nx 0 ys.length))) : EStep P o st K :=
 j6 fun E w a hsim => by
  subst hy
  obtain ⟨ht, i, z, hie, hz, h1, h2, h3⟩ := AppT.spec (P := P) (t := t) (e := e) (sz := Enc.n α) (bytes := bytes)
  obtain ⟨sa, cap, _, _, e1, _, _, _, _, _, _, _, z1, z2, _⟩ := (hs ▸ hsim.ev s).list_inv
  have hcap : cap = 0 := by
   rcases htok with h | h
   ·exact z2 h
   ·exact (z1 h).2
  subst hcap
  have hrl : (ys.map (cells (α := α))).length = ys.length := List.length_map _
  obtain ⟨ao, c, news, e2, hl, hnews, hr, hone, h1c⟩ := wb (hx ▸ hsim.ev x) (l7 ys)
  rw [hrl] at e2 hl hnews
  have hy0 : ys.length ≠ 0 := fun e => hne (List.eq_nil_of_length_eq_zero e)
  obtain ⟨ad, rfl, hcells⟩ := hnews.resolve_left hy0
  have hl2 : news.length = ys.length * i.size := by rw [hl, h1]
  have key : ∃ nc, (Builtin.append_ #[t, t] o.type #[.slice sa 0 0, .slice (some ad) ys.length c]).run P w = .ok (.slice (some ⟨w.heap.size, 0, none⟩) ys.length nc) (w.drew.alloc (.cells (news.toArray ++ Builtin.zeroCells z.cells (nc - ys.length)) e)) ∧ ys.length ≤ nc ∧ nc ≤ maxLen := by
   refine ⟨grownCap w (0 + ys.length) 0 e, ?_, ?_, ?_⟩
   ·cases sa with
    | none =>
     have := run_append_nil (P := P) w t o.type e i z ht hie hz ad ys.length c news hl2 hcells (by omega) (by omega) (by rw [h2]; omega)
     simpa using this
    | some a0 =>
     have := run_append_grow (P := P) w t o.type e i z ht hie hz a0 0 0 [] (by simp) (by simp) ad ys.length c news hl2 hcells (by omega) (by omega) (growslice_fits (by omega) (by rw [h2]; simpa using hb))
     simpa using this
   ·have := grownCap_ge w (0 + ys.length) 0 e; omega
   ·exact grownCap_le_maxLen w (0 + ys.length) 0 e (by unfold maxLen; omega)
  obtain ⟨nc, hrun, hnc, hnm⟩ := key
  obtain ⟨ob, hob⟩ : ∃ ob, ob = Obj.cells (news.toArray ++ Builtin.zeroCells z.cells (nc - ys.length)) e := ⟨_, rfl⟩
  rw [← hob] at hrun
  have hev := Ev.laid hsim.g (o := ob) 0 (.inr rfl)
  have hg := SimG.laid hsim.g (o := ob) 0 (.inr rfl)
  have hnew : (w.drew.alloc ob).heap[w.heap.size]? = some ob := qs w.drew ob
  have hsz : (w.drew.alloc ob).heap.size = w.heap.size + 1 := by simp
  have hold : ∀ n tt b, (E.lay w.heap.size 0).T n = some tt → blk tt.2.2 = some b → b < w.heap.size := fun n tt b h5 h6 => (hsim.g.tb n _ _ _ b h5 h6).2
  have hnx := hsim.g.nx
  have hfr : ∀ b o', blk (.slice (some ⟨w.heap.size, 0, none⟩) ys.length nc) = some b → w.heap[b]? = some o' → False := fun b o' hbk ho' => by
   simp only [blk, Option.some.injEq] at hbk
   subst hbk
   have := (Array.getElem?_eq_some_iff.1 ho').1
   omega
  have hev2 := hev.thenName (.slice (some ⟨w.heap.size, 0, none⟩) ys.length nc) hfr
  have hg2 := SimG.name hg (.slice (some ⟨w.heap.size, 0, none⟩) ys.length nc) (.arr 0 0 e (Enc.n α) ys.length (dq ys)) (fun b hbk => by
   simp only [blk, Option.some.injEq] at hbk
   subst hbk
   exact ⟨hsim.g.base, by rw [hsz]; omega, fun n tt h5 h6 => absurd (hold n tt _ h5 h6) (by omega)⟩) (by
   refine ⟨.slice (some ⟨w.heap.size, 0, none⟩) ys.length nc, news, ?_, ⟨hl, .inr ⟨w.heap.size, nc, _, rfl, hsim.g.base, hnew.trans (by rw [hob]), hnc, hnm, ?_, ?_⟩⟩, fun c hc => ?_, hr.ev hev2, fun b hbk => ?_, hn⟩
   ·simp [Env.name, Env.lay, hnx]
   ·simp only [Array.size_append, List.size_toArray, size_zeroCells, hl]
    rw [h3, ← Nat.add_mul]
    congr 1
    omega
   ·simp only [Array.toList_append]
    rw [List.take_append_of_le_length (by simp [hl]), List.take_of_length_le (by simp [hl])]
   ·obtain ⟨r, hr1, hr2⟩ := List.mem_flatten.1 hc
    exact hone r hr1 c hr2
   ·simp only [blk, Option.some.injEq] at hbk
    subst hbk
    simp [Env.name, Env.lay])
  refine ⟨.slice (some ⟨w.heap.size, 0, none⟩) ys.length nc, w.drew.alloc ob, _, _, _, .own st.nx 0 ys.length, ?_, hev2, ?_, hg2, h⟩
  ·simp only [execOp, ho, resolve, invoke, builtin, Sem.run_bind, Sem.run_pure, Result.andThen_ok, List.map_toArray, List.map_cons, List.map_nil, e1, e2]
   simp only [List.length_nil]
   rw [hrun]; rfl
  ·refine R.own (by simp [Env.name, Env.lay]; omega) hnc hnm fun ver wv val htt => ?_
   simp only [Env.name, Env.lay, hnx, if_true, Option.some.injEq, Prod.mk.injEq] at htt
   obtain ⟨rfl, rfl, rfl⟩ := htt
   exact ⟨Nat.le_refl _, fun _ => ⟨_, Nat.le_refl _, rfl⟩⟩
end
/-- A function that gives nothing back ends. -/
theorem gp {P : Program} {st : St} {fn : Func} {G : Nat → Option GObj} {nx : Nat} {e : Exit} (hf : fn.results = #[]) (he : e = .normal ∨ e = .ret) (hn : nx ≤ st.nx) (hG : ∀ n o, G n = some o → st.G n = some o) : oe P fn (.tup []) G nx e st := by
 have : nk P fn st (.tup []) := fun E w a _ => ⟨_, results_none hf _ _ _, R.undef E w⟩
 rcases he with rfl | rfl
 ·exact ⟨this, hn, hG⟩
 ·exact ⟨this, hn, hG⟩
end Go.AB
namespace Go.AB
open Go Go.RowKit
variable {ρ : Option Nat}
section
variable {P : Program} {ops : Array Oper} {Q : Exit → Act → World → Prop} {S : World → Prop} {late : Nat → Bool}
/-- Values alone: whatever has come up. -/
theorem uft {S2 : World → Prop} (fin : Act → World → Prop) (fuel : Nat) (hs : Region.noSelect ops = true) (hQ : ∀ (o : Option Tmp) (v : Value) c a w, Q (.panic c) (a.put o v) w → Q (.panic c) a w) :
  ∀ (π : List (Nat × Option Nat)) (listed : Array Bool) (a : Act) (w : World), Closed .any ops listed → mg ops late (fun _ => true) π listed = true →
   (∀ a, fin a w → iy P .any ops Q S late fuel (lf π listed) a w) → gx P ops (jj fin) S2 late (fun _ => false) (fun _ => true) π a w → iy P .any ops Q S late (gr π + fuel) listed a w := by
 intro π
 induction π with
 | nil =>
  intro listed a w _ _ hf h
  have := hf a h
  simpa [gr, lf] using this
 | cons p rest ih =>
  obtain ⟨i, m⟩ := p
  intro listed a w hcl hc hf h
  cases m with
  | some j => simp [mg] at hc
  | none =>
   simp only [mg, Bool.and_eq_true] at hc
   obtain ⟨⟨⟨⟨hready, hfree⟩, hsome⟩, hlate⟩, hc2⟩ := hc
   simp only [gx, Bool.false_eq_true, if_false] at h
   cases ho : ops[i]? with
   | none => rw [ho] at hsome; cases hsome
   | some o =>
    rw [ho] at h
    obtain ⟨v, hy, hrest⟩ := h
    have hi : i ∈ Region.ready .any ops listed := by simpa using hready
    have hrec := ih _ _ _ (hcl.set hi) hc2 hf hrest
    have hp : gr ((i, none) :: rest) + fuel = gr rest + fuel + 1 := by simp only [gr]; omega
    rw [hp]
    simp only [if_true] at hy
    exact rk (depth := ops.size) (fun _ => True) ho (Region.noSelect_spec hs) (fun c a w => hQ o.dst v c a w) (.inl fun _ => trivial) (gr rest + fuel) listed a w hcl (Region.free_spec ho hfree) hi hy trivial hrec
end
section
variable (P : Program) (ol : List Oper) (K : St → Prop) (D : List Nat) (late : Nat → Bool)
/-- What is left, in whatever order; b: something late has come up. -/
def og (b : Bool) (fuel : Nat) (listed : List Bool) (st : St) : Prop :=
 ∀ (E0 : Env) (w0 : World) (Q : Act → World → Prop), (∀ a' w' st' E', Ev E0 w0 E' w' → Sim E' w' st' a' → K st' → Q a' w') →
  ∀ E1 w1 a, Ev E0 w0 E1 w1 → Sim E1 w1 st a → (b = false → ∀ n ∈ D, E1.T n = E0.T n) → iy P .any ol.toArray (jj Q) (Keeps E0 (· ∈ D) w0) late fuel listed.toArray a w1
def tv (b : Bool) (fuel : Nat) (listed : List Bool) (i : Nat) (st : St) : Prop :=
 ∃ o, ol[i]? = some o ∧ fg ol.toArray st o = some true ∧ ((b = false ∧ EStep P o st fun st' => n9 D st st' ∧ og P ol K D late false fuel (listed.set i true) st') ∨ (late i = true ∧ EStep P o st (og P ol K D late true fuel (listed.set i true))))
def tw (b : Bool) (fuel : Nat) (listed : List Bool) (st : St) : List Nat → Prop
 | [] => True
 | i :: is => tv P ol K D late b fuel listed i st ∧ tw b fuel listed st is
end
section
variable {P : Program} {ol : List Oper} {K : St → Prop} {D : List Nat} {late : Nat → Bool} {b : Bool} {fuel : Nat} {listed : List Bool} {st : St} {i : Nat} {is : List Nat} {o : Oper} {c : C}
theorem aq : tw P ol K D late b fuel listed st [] := trivial
theorem am (h : tv P ol K D late b fuel listed i st) (k : tw P ol K D late b fuel listed st is) : tw P ol K D late b fuel listed st (i :: is) := ⟨h, k⟩
theorem cb (hol : ol[i]? = some o) (hg : fg ol.toArray st o = some true) {listed' : List Bool} (hl : listed.set i true = listed') (h : EStep P o st fun st' => n9 D st st' ∧ og P ol K D late false fuel listed' st') : tv P ol K D late false fuel listed i st :=
 ⟨o, hol, hg, .inl ⟨rfl, by rw [hl]; exact h⟩⟩
theorem bq (hL : late i = true) (hol : ol[i]? = some o) (hg : fg ol.toArray st o = some true) {listed' : List Bool} (hl : listed.set i true = listed') (h : EStep P o st (og P ol K D late true fuel listed')) : tv P ol K D late b fuel listed i st :=
 ⟨o, hol, hg, .inr ⟨hL, by rw [hl]; exact h⟩⟩
theorem gq (hr : (Region.ready .any ol.toArray listed.toArray == []) = true) (h : K st) : og P ol K D late b fuel listed st := by
 intro E0 w0 Q hQ E1 w1 a hev hs _
 have hr' : Region.ready .any ol.toArray listed.toArray = [] := by simpa using hr
 have hq := hQ a w1 st E1 hev hs h
 cases fuel with
 | zero => exact ⟨hr', hq⟩
 | succ n => exact ⟨fun _ => hq, fun i hi => by rw [hr'] at hi; cases hi⟩
theorem ar (is : List Nat) (hr : (Region.ready .any ol.toArray listed.toArray == is) = true) (hne : is ≠ []) (h : tw P ol K D late b fuel listed st is) : og P ol K D late b (fuel + 1) listed st := by
 intro E0 w0 Q hQ E1 w1 a hev hs hb
 have hr' : Region.ready .any ol.toArray listed.toArray = is := by simpa using hr
 refine ⟨fun e => absurd (hr'.symm.trans e) hne, fun i hi => ?_⟩
 rw [hr'] at hi
 have hi' : tv P ol K D late b fuel listed i st := by
  clear hr hr' hne
  induction is with
  | nil => cases hi
  | cons j is ih =>
   rcases List.mem_cons.1 hi with rfl | hi
   ·exact h.1
   ·exact ih h.2 hi
 obtain ⟨o, hol, hg, hcase⟩ := hi'
 have ho : ol.toArray[i]? = some o := by simpa using hol
 have hset : listed.toArray.setIfInBounds i true = (listed.set i true).toArray := by simp
 refine wpOp_step ho fun Kr hK => ?_
 rw [if_pos (j5 hg hs)]
 rcases hcase with ⟨rfl, h1⟩ | ⟨hL, h1⟩
 ·refine h1 E1 w1 a hs Kr _ fun a' w' st' E' q1 q2 q3 => ?_
  have hk := vm hs q1 q2 q3.1
  refine hK a' w' ⟨.inr fun hS => ⟨fun b j hj => (q1.cell b j (Nat.lt_of_lt_of_le hj (hev.L b))).trans (hS.1 b j hj), fun n hn ver wv val b ht hb' => ?_⟩, ?_⟩
  ·have := hb rfl n hn
   exact ((hk n hn).2 ver wv val b (this.trans ht) hb').trans (hS.2 n hn ver wv val b ht hb')
  ·rw [hset]
   exact q3.2 E0 w0 Q hQ E' w' a' (hev.trans q1) q2 fun e n hn => (hk n hn).1.trans (hb rfl n hn)
 ·refine h1 E1 w1 a hs Kr _ fun a' w' st' E' q1 q2 q3 => ?_
  refine hK a' w' ⟨.inl hL, ?_⟩
  rw [hset]
  exact q3 E0 w0 Q hQ E' w' a' (hev.trans q1) q2 fun e => by cases e
theorem cn {total : Nat} (π : List (Nat × Option Nat)) (fuel : Nat) (listed' : List Bool)
  (hchk : (zb ol.toArray listed.toArray && (Region.noSelect ol.toArray && (mg ol.toArray late (fun _ => true) π listed.toArray && ((lf π listed.toArray).toList == listed' && total == gr π + fuel)))) = true)
  (h : jp P ol.toArray (fun st' => n9 D st st' ∧ og P ol K D late b fuel listed' st') [] late (fun _ => false) (fun _ => true) π st) : og P ol K D late b total listed st := by
 simp only [Bool.and_eq_true, beq_iff_eq] at hchk
 obtain ⟨h0, h1, h2, h3, h4⟩ := hchk
 subst h4
 intro E0 w0 Q hQ E1 w1 a hev hs hb
 have hend : lf π listed.toArray = listed'.toArray := by rw [← h3]
 refine uft (S2 := Keeps E1 (· ∈ ([] : List Nat)) w1) (fun a' w' => iy P .any ol.toArray (jj Q) (Keeps E0 (· ∈ D) w0) late fuel listed'.toArray a' w') fuel h1 (fun _ _ _ _ _ h => h) π _ a w1 (uel h0) h2 (fun a' h' => by rw [hend]; exact h') ?_
 exact h E1 w1 _ (fun a' w' st' E' q1 q2 q3 => q3.2 E0 w0 Q hQ E' w' a' (hev.trans q1) q2 fun e n hn => ((vm hs q1 q2 q3.1) n hn).1.trans (hb e n hn)) a hs
theorem ue6 {id : Nat} {l : List Oper} {Q : Exit → St → Prop} (π : List (Nat × Option Nat)) (late N : Nat → Bool) (fuel : Nat) (listed : List Bool) (D : List Nat) (hm : P.follows .mixedOrders = true)
  (hchk : (qj l && (Region.noSelect l.toArray && (mg l.toArray late N π (Array.replicate l.toArray.size false) && ((lf π (Array.replicate l.toArray.size false)).toList == listed && gr π + fuel == l.toArray.size)))) = true)
  (h : jp P l.toArray (fun st' => n9 D st st' ∧ og P l (Q .normal) D late false fuel listed st') D late (fun _ => false) N π st) : AW ρ P (.region id l.toArray true) Q st := by
 intro E w a hs
 simp only [Bool.and_eq_true, beq_iff_eq] at hchk
 obtain ⟨h0, h1, h2, h3, h4⟩ := hchk
 have hev : Ev E w E w.drew := Ev.same ((Below.refl _ _).drew) rfl
 have hend : lf π (Array.replicate l.toArray.size false) = listed.toArray := by rw [← h3]
 have key : iy P .any l.toArray (jj fun a' w' => my E w Q .normal a' w') (Keeps E (· ∈ D) w.drew) late (gr π + fuel) (Array.replicate l.toArray.size false) a w.drew := by
  refine wo (fun a' w' => iy P .any l.toArray (jj fun a' w' => my E w Q .normal a' w') (Keeps E (· ∈ D) w.drew) late fuel listed.toArray a' w') fuel h1 (fun _ _ _ _ _ h => h) π _ a w.drew ?_ h2 (Keeps.refl _ _ _) (fun a' h' => by rw [hend]; exact h') ?_
  ·intro j o _ hj
   rw [Array.getD_eq_getD_getElem?, Array.getElem?_replicate] at hj
   split at hj <;> simp at hj
  ·exact h E w.drew _ (fun a' w' st' E' q1 q2 q3 => q3.2 E w.drew _ (fun a2 w2 st2 E2 r1 r2 r3 => ⟨st2, E2, hev.trans r1, r2, r3⟩) E' w' a' q1 q2 fun _ n hn => ((vm hs.drew q1 q2 q3.1) n hn).1) a hs.drew
 rw [h4] at key
 refine i2 (Q := jj fun a' w' => my E w Q .normal a' w') ?_ (za hm h0 (t6 _ _ _ _ key))
 intro e a' w' hq
 cases e with
 | normal => exact hq
 | _ => exact hq.elim
end
/-- Four objects that are changed. -/
theorem gk {g H : Nat → Option GObj} {a b c d : Nat} {oa ob oc od : GObj} (ha : H a = some oa) (hb : H b = some ob) (hc : H c = some oc) (hd : H d = some od) (h : ∀ n o, n ≠ a → n ≠ b → n ≠ c → n ≠ d → g n = some o → H n = some o) :
  ∀ n o, ak (ak (ak (ak g a oa) b ob) c oc) d od n = some o → H n = some o := by
 intro n o hn
 by_cases e1 : n = d
 ·subst e1; rw [ni] at hn; rw [hd]; exact hn
 ·rw [eu e1] at hn
  by_cases e2 : n = c
  ·subst e2; rw [ni] at hn; rw [hc]; exact hn
  ·rw [eu e2] at hn
   by_cases e3 : n = b
   ·subst e3; rw [ni] at hn; rw [hb]; exact hn
   ·rw [eu e3] at hn
    by_cases e4 : n = a
    ·subst e4; rw [ni] at hn; rw [ha]; exact hn
    ·rw [eu e4] at hn
     exact h n o e4 e3 e2 e1 hn
end Go.AB
namespace Go.AB
open Go Go.RowKit
open Go.Maps (Keyed)
section
variable {P : Program} {k t e : TypeId} {w : World} {r : Nat} {es : Array MapEntry} {clock : Nat}
end
section
variable {P : Program} {o : Oper} {st : St} {K : St → Prop} {α : Type} [KeyV α]
end
/-- Three numbers. -/
instance : KeyV Go.PB.PlaceD where
 kv x := .agg #[.int .i64 x.ch, .int .i64 x.ln, .int .i64 x.wd]
 kc x := .agg [.v (.int .i64 x.ch), .v (.int .i64 x.ln), .v (.int .i64 x.wd)]
 inv h := by
  obtain ⟨vs, rfl, h1, _⟩ := h.agg_inv
  match vs, h1 with
  | [a, b, c], h1 =>
   have e1 := (h1.2 0 _ _ rfl rfl).v_inv
   have e2 := (h1.2 1 _ _ rfl rfl).v_inv
   have e3 := (h1.2 2 _ _ rfl rfl).v_inv
   subst e1; subst e2; subst e3; rfl
  | [], h => exact absurd h.1 (by simp)
  | [_], h => exact absurd h.1 (by simp)
  | [_, _], h => exact absurd h.1 (by simp)
  | _ :: _ :: _ :: _ :: _, h => exact absurd h.1 (by simp)
 inj h := by
  rename_i x y
  obtain ⟨a, b, c⟩ := x
  obtain ⟨d, e, f⟩ := y
  simpa using h
 any {E w x v} h E' w' := by
  obtain ⟨vs, rfl, h1, _⟩ := h.agg_inv
  match vs, h1 with
  | [a, b, c], h1 =>
   have e1 := h1.2 0 _ _ rfl rfl
   have e2 := h1.2 1 _ _ rfl rfl
   have e3 := h1.2 2 _ _ rfl rfl
   cases e1 with | v e1 =>
   cases e2 with | v e2 =>
   cases e3 with | v e3 =>
   exact (Rs.cons (.v e1) (Rs.cons (.v e2) (Rs.cons (.v e3) Rs.nil))).agg (by intro c hc; simp only [List.mem_cons, List.not_mem_nil, or_false] at hc; rcases hc with rfl | rfl | rfl <;> rfl)
  | [], h => exact absurd h.1 (by simp)
  | [_], h => exact absurd h.1 (by simp)
  | [_, _], h => exact absurd h.1 (by simp)
  | _ :: _ :: _ :: _ :: _, h => exact absurd h.1 (by simp)
end Go.AB
namespace Go.AB
open Go Go.RowKit
open Go.PB (ba ai PlaceD bh bj bi)
def udm (P : Program) (k u : TypeId) : Bool := match P.underlying k with
 | some (.struct fs) => (match fs.toList with
  | [a, b, c] => a.type == u && b.type == u && c.type == u && a.offset == 0 && b.offset == 1 && c.offset == 2 && fs.all (·.name != "_")
  | _ => false)
 | _ => false
theorem key3 {P : Program} {k u : TypeId} (h : udm P k u = true) (hu : P.underlying u = some (.int .i64)) (h3 : P.cellsOf k = 3) (h1 : P.cellsOf u = 1) (hk : P.keyType k = true) (hm : ∃ m, P.types.size = m + 3) {x y z : Int} (hx : (Lit.int .i64 x).wf = true) (hy : (Lit.int .i64 y).wf = true) (hz : (Lit.int .i64 z).wf = true) : ∃ l, keyOf P k (.agg #[.int .i64 x, .int .i64 y, .int .i64 z]) = some l := by
 obtain ⟨m, hm⟩ := hm
 unfold udm at h
 split at h
 ·rename_i fs hfs
  split at h
  ·rename_i a b c habc
   simp only [Bool.and_eq_true, beq_iff_eq] at h
   obtain ⟨⟨⟨⟨⟨⟨e1, e2⟩, e3⟩, e4⟩, e5⟩, e6⟩, e7⟩ := h
   have hf : (Value.agg #[.int .i64 x, .int .i64 y, .int .i64 z]).formed P k = true := by simp [Value.formed, hfs, h3]
   refine ⟨.string (keyBytes [.int .i64 x, .int .i64 y, .int .i64 z]), ?_⟩
   unfold keyOf
   rw [hfs]
   simp only [hk, hf, Bool.and_self, if_true]
   have hl : P.keyLits (P.types.size + 1) k (Value.agg #[.int .i64 x, .int .i64 y, .int .i64 z]).cells.toList = some [.int .i64 x, .int .i64 y, .int .i64 z] := by
    rw [hm]
    unfold Program.keyLits
    simp only [hfs, h3, h1, e1, e2, e3, e4, e5, e6, e7, habc, Value.cells]
    unfold Program.keyLits
    simp [hu, h1, e1, e2, e3, e4, e5, e6, hx, hy, hz]
   rw [hl]
   rfl
  ·cases h
 ·cases h
end Go.AB
namespace Go.Proofs.YtbbdginipiljdaaGreatDoor
set_option maxRecDepth 10000
open Go Go.RowKit Go.AB
open Go.PB (ba ai PlaceD bh bj bi)
theorem uis : Go.Maps.Keyed Tryz.prog 61 := Go.Maps.Keyed.of_law (deep_law_laid yg (m := 2) (by omega) (of_decide_eq_true (by kernel_rfl)) (by kernel_rfl) (by kernel_rfl))
instance : KeyT Tryz.prog 61 PlaceD where
 keyed := uis
 has {E w x v} h := by
  obtain ⟨vs, rfl, h1, _⟩ := R.agg_inv h
  match vs, h1 with
  | [a, b, c], h1 => exact key3 (u := 3) (by kernel_rfl) wu (by kernel_rfl) (by kernel_rfl) (by kernel_rfl) ukg (vf (vk (h1.2 0 _ _ rfl rfl))) (vf (vk (h1.2 1 _ _ rfl rfl))) (vf (vk (h1.2 2 _ _ rfl rfl)))
  | [], h => exact absurd h.1 (by simp)
  | [_], h => exact absurd h.1 (by simp)
  | [_, _], h => exact absurd h.1 (by simp)
  | _ :: _ :: _ :: _ :: _, h => exact absurd h.1 (by simp)
end Go.Proofs.YtbbdginipiljdaaGreatDoor
