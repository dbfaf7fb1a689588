/-
  What the walks through the program rest on: values, states, steps, calls (PaFlow, PbData, PcWorst, PdPlain, PeSets, PfPlain, PgSides, PhApart, PiWhy, PjWhy, PsExamples, PpAdd, PlTruth, PqRest, AbTwin, AbCut, RaStd, OpenE, AbRem, AbBits, QaRef, QbRef, QcRef, RbSides, QdRef, QeRef, KxBefore, QfRef, QgRef, QhRef, QiRef, QjRef, QkRef, PmMore, QlPlain, AbZero, AbGrow, AbCutN, QmRef).
-/
import Derived.Lib.Hide
import Derived.Test.YtbbdginipiljdaaGreatDoorPartB
import Derived.Shelf.SlicesE.DeleteFunc
import Derived.Deep.Slices
import Derived.Lib.SmallJoins
import Derived.Carry
import Derived.ProofKit
import Derived.OpenShut
namespace Go.AB
/-- a sum -/
def sm : Nat → (Nat → Int) → Int
 | 0, _ => 0
 | n + 1, g => sm n g + g n
theorem nm : ∀ {n : Nat} {g h : Nat → Int}, (∀ i, i < n → g i ≤ h i) → sm n g ≤ sm n h
 | 0, _, _, _ => Int.le_refl _
 | n + 1, g, h, H => by
  have h1 := nm (n := n) fun i hi => H i (by omega)
  have h2 := H n (by omega)
  simp only [sm]; omega
theorem gz : ∀ {n : Nat} {g h : Nat → Int}, (∀ i, i < n → g i = h i) → sm n g = sm n h
 | 0, _, _, _ => rfl
 | n + 1, g, h, H => by
  have h1 := gz (n := n) fun i hi => H i (by omega)
  have h2 := H n (by omega)
  simp only [sm]; omega
theorem oz : ∀ (n : Nat) (g h : Nat → Int), sm n (fun i => g i + h i) = sm n g + sm n h
 | 0, _, _ => rfl
 | n + 1, g, h => by have := oz n g h; simp only [sm]; omega
theorem oy : ∀ (n : Nat) (g h : Nat → Int), sm n (fun i => g i - h i) = sm n g - sm n h
 | 0, _, _ => rfl
 | n + 1, g, h => by have := oy n g h; simp only [sm]; omega
theorem l4 : ∀ n : Nat, sm n (fun _ => 0) = 0
 | 0 => rfl
 | n + 1 => by have := l4 n; simp only [sm]; omega
theorem vd {n : Nat} {g : Nat → Int} (H : ∀ i, i < n → 0 ≤ g i) : 0 ≤ sm n g := by
 have := nm (g := fun _ => 0) H
 rwa [l4] at this
theorem mp : ∀ {n k : Nat} (_ : k < n) (v : Int), sm n (fun i => bif decide (i = k) then v else 0) = v
 | 0, _, h, _ => absurd h (Nat.not_lt_zero _)
 | n + 1, k, h, v => by
  simp only [sm]
  by_cases e : n = k
  ·subst e
   rw [gz (h := fun _ => 0) (fun i hi => by rw [decide_eq_false (by omega)]; rfl), l4, decide_eq_true rfl]
   simp
  ·rw [mp (n := n) (by omega) v, decide_eq_false e]
   simp
theorem uba : ∀ (n m : Nat) (g : Nat → Nat → Int), sm n (fun i => sm m (g i)) = sm m (fun j => sm n fun i => g i j)
 | 0, m, g => by simp only [sm]; exact (l4 m).symm
 | n + 1, m, g => by
  have := uba n m g
  simp only [sm]
  rw [oz, this]
theorem ubb {n k : Nat} {g : Nat → Int} (hk : k < n) (H : ∀ i, i < n → 0 ≤ g i) : g k ≤ sm n g := by
 have h1 := nm (n := n) (g := fun i => bif decide (i = k) then g k else 0) (h := g) fun i hi => by
  by_cases e : i = k
  ·subst e; simp
  ·rw [decide_eq_false e]; exact H i hi
 rwa [mp hk] at h1

/-- pages, each with a first and a second reader, or one of them, or none -/
structure Net where
 nF : Nat
 nr : Nat
 np : Nat
 fr : Nat → Option Nat
 sc : Nat → Option Nat
structure Net.Ok (N : Net) : Prop where
 le : N.nF ≤ N.nr
 fr : ∀ j i, N.fr j = some i → i < N.nF
 sc : ∀ j i, N.sc j = some i → N.nF ≤ i ∧ i < N.nr
def ob (S : Nat → Bool) : Option Nat → Bool
 | none => false
 | some i => S i
def Net.hit (N : Net) (S : Nat → Bool) (j : Nat) : Bool := ob S (N.fr j) || ob S (N.sc j)
/-- who reads a page -/
def Net.by (N : Net) (j i : Nat) : Bool := decide (N.fr j = some i) || decide (N.sc j = some i)
/-- what a set of readers proves -/
def Net.f (N : Net) (R C : Nat → Int) (S : Nat → Bool) : Int := sm N.nr (fun i => bif S i then R i else 0) + sm N.np (fun j => bif N.hit S j then 0 else C j)
/-- what may remain -/
structure Net.Feas (N : Net) (R C y : Nat → Int) : Prop where
 page : ∀ j, j < N.np → 0 ≤ y j ∧ y j ≤ C j
 rd : ∀ i, i < N.nr → sm N.np (fun j => bif N.by j i then y j else 0) ≤ R i
section
variable {N : Net} {R C : Nat → Int}
theorem Net.Ok.by_lt (h : N.Ok) {j i : Nat} (hb : N.by j i = true) : i < N.nr := by
 simp only [Net.by, Bool.or_eq_true, decide_eq_true_eq] at hb
 rcases hb with e | e
 ·have := h.fr j i e; have := h.le; omega
 ·exact (h.sc j i e).2
theorem Net.hit_iff {S : Nat → Bool} {j : Nat} : N.hit S j = true ↔ ∃ i, N.by j i = true ∧ S i = true := by
 unfold Net.hit Net.by
 constructor
 ·intro h
  rw [Bool.or_eq_true] at h
  rcases h with h | h
  ·cases e : N.fr j with
   | none => rw [e] at h; cases h
   | some i => rw [e] at h; exact ⟨i, by simp, h⟩
  ·cases e : N.sc j with
   | none => rw [e] at h; cases h
   | some i => rw [e] at h; exact ⟨i, by simp, h⟩
 ·rintro ⟨i, h1, h2⟩
  simp only [Bool.or_eq_true, decide_eq_true_eq] at h1 ⊢
  rcases h1 with e | e
  ·rw [e]; exact .inl h2
  ·rw [e]; exact .inr h2
theorem Net.f_congr (hN : N.Ok) {S S' : Nat → Bool} (h : ∀ i, i < N.nr → S i = S' i) : N.f R C S = N.f R C S' := by
 have h2 : ∀ j, N.hit S j = N.hit S' j := fun j => by
  rw [Bool.eq_iff_iff, Net.hit_iff, Net.hit_iff]
  exact ⟨fun ⟨i, q1, q2⟩ => ⟨i, q1, (h i (hN.by_lt q1)) ▸ q2⟩, fun ⟨i, q1, q2⟩ => ⟨i, q1, (h i (hN.by_lt q1)).symm ▸ q2⟩⟩
 have e1 : sm N.nr (fun i => bif S i then R i else 0) = sm N.nr (fun i => bif S' i then R i else 0) := gz fun i hi => by rw [h i hi]
 have e2 : sm N.np (fun j => bif N.hit S j then 0 else C j) = sm N.np (fun j => bif N.hit S' j then 0 else C j) := gz fun j _ => by rw [h2 j]
 unfold Net.f
 rw [e1, e2]
/-- no more remains than any readers prove -/
theorem Net.Feas.le {y : Nat → Int} (hN : N.Ok) (h : N.Feas R C y) (S : Nat → Bool) : sm N.np y ≤ N.f R C S := by
 have h1 : sm N.np (fun j => bif N.hit S j then y j else 0) ≤ sm N.nr (fun i => bif S i then R i else 0) := by
  have h2 : sm N.nr (fun i => sm N.np fun j => bif S i then (bif N.by j i then y j else 0) else 0) ≤ sm N.nr (fun i => bif S i then R i else 0) := nm fun i hi => by
   cases hS : S i
   ·simp only [cond_false, l4]; exact Int.le_refl _
   ·simp only [cond_true]; exact h.rd i hi
  refine Int.le_trans ?_ h2
  rw [uba]
  refine nm fun j hj => ?_
  have hy := (h.page j hj).1
  have hnn : ∀ i, i < N.nr → 0 ≤ (bif S i then (bif N.by j i then y j else 0) else 0) := fun i _ => by
   cases S i <;> cases N.by j i <;> simp [hy]
  cases hh : N.hit S j
  ·exact vd hnn
  ·obtain ⟨i, q1, q2⟩ := Net.hit_iff.1 hh
   have := ubb (hN.by_lt q1) hnn
   simpa [q1, q2] using this
 have h3 : sm N.np (fun j => bif N.hit S j then 0 else y j) ≤ sm N.np (fun j => bif N.hit S j then 0 else C j) := nm fun j hj => by
  cases N.hit S j
  ·exact (h.page j hj).2
  ·exact Int.le_refl _
 have h4 : sm N.np y = sm N.np (fun j => bif N.hit S j then y j else 0) + sm N.np (fun j => bif N.hit S j then 0 else y j) := by
  rw [← oz]
  exact gz fun j _ => by cases N.hit S j <;> simp
 unfold Net.f
 omega
/-- two sets of readers, crossed -/
def mc (nF : Nat) (S T : Nat → Bool) (i : Nat) : Bool := bif decide (i < nF) then S i || T i else S i && T i
def mb (nF : Nat) (S T : Nat → Bool) (i : Nat) : Bool := bif decide (i < nF) then S i && T i else S i || T i
theorem Net.cross (hN : N.Ok) (hC : ∀ j, j < N.np → 0 ≤ C j) (S T : Nat → Bool) : N.f R C (mc N.nF S T) + N.f R C (mb N.nF S T) ≤ N.f R C S + N.f R C T := by
 have h1 : sm N.nr (fun i => bif mc N.nF S T i then R i else 0) + sm N.nr (fun i => bif mb N.nF S T i then R i else 0) = sm N.nr (fun i => bif S i then R i else 0) + sm N.nr (fun i => bif T i then R i else 0) := by
  rw [← oz, ← oz]
  refine gz fun i _ => ?_
  unfold mc mb
  cases decide (i < N.nF) <;> cases S i <;> cases T i <;> simp
 have h2 : sm N.np (fun j => bif N.hit (mc N.nF S T) j then 0 else C j) + sm N.np (fun j => bif N.hit (mb N.nF S T) j then 0 else C j) ≤ sm N.np (fun j => bif N.hit S j then 0 else C j) + sm N.np (fun j => bif N.hit T j then 0 else C j) := by
  rw [← oz, ← oz]
  refine nm fun j hj => ?_
  have hc := hC j hj
  have e1 : ∀ U V : Nat → Bool, ob (mc N.nF U V) (N.fr j) = (ob U (N.fr j) || ob V (N.fr j)) := fun U V => by
   cases e : N.fr j with
   | none => rfl
   | some i => simp only [ob, mc, decide_eq_true (hN.fr j i e), cond_true]
  have e2 : ∀ U V : Nat → Bool, ob (mb N.nF U V) (N.fr j) = (ob U (N.fr j) && ob V (N.fr j)) := fun U V => by
   cases e : N.fr j with
   | none => rfl
   | some i => simp only [ob, mb, decide_eq_true (hN.fr j i e), cond_true]
  have e3 : ∀ U V : Nat → Bool, ob (mc N.nF U V) (N.sc j) = (ob U (N.sc j) && ob V (N.sc j)) := fun U V => by
   cases e : N.sc j with
   | none => rfl
   | some i => have := hN.sc j i e; simp only [ob, mc, decide_eq_false (show ¬ i < N.nF by omega), cond_false]
  have e4 : ∀ U V : Nat → Bool, ob (mb N.nF U V) (N.sc j) = (ob U (N.sc j) || ob V (N.sc j)) := fun U V => by
   cases e : N.sc j with
   | none => rfl
   | some i => have := hN.sc j i e; simp only [ob, mb, decide_eq_false (show ¬ i < N.nF by omega), cond_false]
  simp only [Net.hit, e1, e2, e3, e4]
  cases ob S (N.fr j) <;> cases ob T (N.fr j) <;> cases ob S (N.sc j) <;> cases ob T (N.sc j) <;> simp <;> omega
 unfold Net.f
 omega
/-- so much less for the readers of a page, and nothing more on it -/
def Net.lessR (N : Net) (R : Nat → Int) (j : Nat) (n : Int) (i : Nat) : Int := bif N.by j i then R i - n else R i
def dr (C : Nat → Int) (j k : Nat) : Int := bif decide (k = j) then 0 else C k
def cnt (S : Nat → Bool) (o : Option Nat) (n : Int) : Int := bif ob S o then n else 0
theorem Net.f_less (hN : N.Ok) {j : Nat} (hj : j < N.np) (n : Int) (S : Nat → Bool) : N.f (N.lessR R j n) (dr C j) S = N.f R C S - cnt S (N.fr j) n - cnt S (N.sc j) n - (bif N.hit S j then 0 else C j) := by
 have h1 : sm N.np (fun k => bif N.hit S k then 0 else dr C j k) = sm N.np (fun k => bif N.hit S k then 0 else C k) - (bif N.hit S j then 0 else C j) := by
  have := mp hj (bif N.hit S j then 0 else C j)
  rw [← this, ← oy]
  refine gz fun k _ => ?_
  by_cases e : k = j
  ·subst e; simp [dr]
  ·simp [dr, e]
 have h2 : ∀ o : Option Nat, (∀ i, o = some i → i < N.nr) → sm N.nr (fun i => bif decide (o = some i) then (bif S i then n else 0) else 0) = cnt S o n := fun o ho => by
  cases o with
  | none => simp only [cnt, ob, cond_false]; rw [gz (h := fun _ => 0) (fun i _ => by simp), l4]
  | some k =>
   have := mp (ho k rfl) (bif S k then n else 0)
   rw [gz (h := fun i => bif decide (i = k) then (bif S k then n else 0) else 0)]
   ·exact this
   ·intro i _
    by_cases e : i = k
    ·subst e; simp
    ·simp [e, Ne.symm e]
 have h3 : sm N.nr (fun i => bif S i then N.lessR R j n i else 0) = sm N.nr (fun i => bif S i then R i else 0) - cnt S (N.fr j) n - cnt S (N.sc j) n := by
  rw [← h2 (N.fr j) (fun i e => by have := hN.fr j i e; have := hN.le; omega), ← h2 (N.sc j) (fun i e => (hN.sc j i e).2), ← oy, ← oy]
  refine gz fun i _ => ?_
  unfold Net.lessR Net.by
  have hx : ¬ (N.fr j = some i ∧ N.sc j = some i) := fun ⟨q1, q2⟩ => by have := hN.fr j i q1; have := (hN.sc j i q2).1; omega
  by_cases q1 : N.fr j = some i
  ·have q2 : ¬ N.sc j = some i := fun q2 => hx ⟨q1, q2⟩
   cases S i <;> simp [q1, q2]
  ·by_cases q2 : N.sc j = some i
   ·cases S i <;> simp [q1, q2]
   ·cases S i <;> simp [q1, q2]
 unfold Net.f
 rw [h1, h3]
 omega
/-- the least of some numbers, as it is looked for -/
def lk (g : Nat → Int) : Nat → Int
 | 0 => g 0
 | k + 1 => min (lk g k) (g k)
theorem uc6 {g : Nat → Int} : ∀ {k s : Nat}, s < k ∨ s = 0 → lk g k ≤ g s
 | 0, s, h => by
  obtain rfl : s = 0 := by omega
  exact Int.le_refl _
 | k + 1, s, h => by
  by_cases e : s = k
  ·subst e; exact Int.min_le_right _ _
  ·have := uc6 (g := g) (k := k) (s := s) (by omega)
   exact Int.le_trans (Int.min_le_left _ _) this
theorem yu {g : Nat → Int} : ∀ k : Nat, ∃ s, (s < k ∨ s = 0) ∧ lk g k = g s
 | 0 => ⟨0, .inr rfl, rfl⟩
 | k + 1 => by
  obtain ⟨s, h1, h2⟩ := yu (g := g) k
  by_cases e : lk g k ≤ g k
  ·exact ⟨s, by omega, by rw [lk, Int.min_eq_left e, h2]⟩
  ·exact ⟨k, by omega, by rw [lk, Int.min_eq_right (by omega)]⟩
/-- a set as a number -/
def pr (S : Nat → Bool) : Nat → Nat
 | 0 => 0
 | n + 1 => pr S n ||| (bif S n then 2 ^ n else 0)
theorem ufb (S : Nat → Bool) : ∀ n, pr S n < 2 ^ n
 | 0 => by simp [pr]
 | n + 1 => by
  have h := ufb S n
  have h2 : 2 ^ n < 2 ^ (n + 1) := Nat.pow_lt_pow_right (by omega) (by omega)
  unfold pr
  refine Nat.or_lt_two_pow (by omega) ?_
  cases S n
  ·exact Nat.two_pow_pos _
  ·exact h2
theorem ufc (S : Nat → Bool) : ∀ n i, (pr S n).testBit i = (decide (i < n) && S i)
 | 0, i => by simp [pr]
 | n + 1, i => by
  have h := ufc S n i
  unfold pr
  rw [Nat.testBit_or, h]
  by_cases e : i = n
  ·subst e
   cases hS : S i <;> simp
  ·have e2 : decide (i < n + 1) = decide (i < n) := by rw [decide_eq_decide]; omega
   rw [e2]
   cases hS : S n
   ·simp
   ·simp only [cond_true, Nat.testBit_two_pow]
    rw [decide_eq_false (Ne.symm e), Bool.or_false]
def Net.most (N : Net) (R C : Nat → Int) : Int := lk (fun s => N.f R C fun i => s.testBit i) (2 ^ N.nr)
theorem Net.most_le (hN : N.Ok) (S : Nat → Bool) : N.most R C ≤ N.f R C S := by
 have h := uc6 (g := fun s => N.f R C fun i => s.testBit i) (k := 2 ^ N.nr) (s := pr S N.nr) (.inl (ufb S _))
 refine Int.le_trans h (Int.le_of_eq (Net.f_congr hN fun i hi => ?_))
 rw [ufc, decide_eq_true hi, Bool.true_and]
theorem Net.most_get (N : Net) (R C : Nat → Int) : ∃ S : Nat → Bool, N.most R C = N.f R C S := by
 obtain ⟨s, _, h⟩ := yu (g := fun s => N.f R C fun i => s.testBit i) (2 ^ N.nr)
 exact ⟨fun i => s.testBit i, h⟩
def n4 (n : Int) (R : Nat → Int) : Option Nat → Int
 | none => n
 | some i => min n (R i)
/-- the most on one page -/
def Net.alone (N : Net) (R C : Nat → Int) (j : Nat) : Int := n4 (n4 (C j) R (N.fr j)) R (N.sc j)
theorem uc5 {n m : Int} {o : Option Nat} : m ≤ n4 n R o ↔ m ≤ n ∧ ∀ i, o = some i → m ≤ R i := by
 cases o with
 | none => simp [n4]
 | some k => simp only [n4, Int.le_min, Option.some.injEq, forall_eq']
theorem Net.le_alone {j : Nat} {m : Int} : m ≤ N.alone R C j ↔ m ≤ C j ∧ ∀ i, N.by j i = true → m ≤ R i := by
 unfold Net.alone Net.by
 rw [uc5, uc5]
 simp only [Bool.or_eq_true, decide_eq_true_eq]
 exact ⟨fun ⟨⟨h1, h2⟩, h3⟩ => ⟨h1, fun i hi => hi.elim (h2 i) (h3 i)⟩, fun ⟨h1, h2⟩ => ⟨⟨h1, fun i hi => h2 i (.inl hi)⟩, fun i hi => h2 i (.inr hi)⟩⟩
/-- what remains, and so much less of it -/
theorem Net.less_le (hN : N.Ok) {j : Nat} (hj : j < N.np) {n : Int} (h0 : 0 ≤ n) (hn : n ≤ C j) : n + N.most (N.lessR R j n) (dr C j) ≤ N.most R C := by
 obtain ⟨S, hS⟩ := N.most_get R C
 have h1 := Net.most_le (R := N.lessR R j n) (C := dr C j) hN S
 rw [Net.f_less hN hj] at h1
 rw [hS]
 cases e : N.hit S j
 ·rw [e] at h1
  have e2 := e
  unfold Net.hit at e2
  rw [Bool.or_eq_false_iff] at e2
  simp only [cnt, e2.1, e2.2, cond_false] at h1
  omega
 ·rw [e] at h1
  unfold Net.hit at e
  rw [Bool.or_eq_true] at e
  unfold cnt at h1
  rcases e with q | q
  ·rw [q] at h1
   cases e2 : ob S (N.sc j) <;> rw [e2] at h1 <;> simp only [cond_true, cond_false] at h1 <;> omega
  ·rw [q] at h1
   cases e2 : ob S (N.fr j) <;> rw [e2] at h1 <;> simp only [cond_true, cond_false] at h1 <;> omega
/-- of each page there is a worst number of errors -/
theorem Net.greedy (hN : N.Ok) (hR : ∀ i, i < N.nr → 0 ≤ R i) (hC : ∀ j, j < N.np → 0 ≤ C j) {j : Nat} (hj : j < N.np) : ∃ n : Int, 0 ≤ n ∧ n ≤ N.alone R C j ∧ N.most R C ≤ n + N.most (N.lessR R j n) (dr C j) := by
 -- the largest number that every set allows
 have hcj := hC j hj
 have hal : 0 ≤ N.alone R C j := Net.le_alone.2 ⟨hcj, fun i hi => hR i (hN.by_lt hi)⟩
 have key : ∀ n : Int, 0 ≤ n → n ≤ N.alone R C j → (∀ S, ob S (N.fr j) = true → ob S (N.sc j) = true → N.most R C ≤ N.f R C S - n) → (n = N.alone R C j ∨ ∃ S, ob S (N.fr j) = true ∧ ob S (N.sc j) = true ∧ N.f R C S - n = N.most R C) → N.most R C ≤ n + N.most (N.lessR R j n) (dr C j) := by
  intro n h0 h1 h2 h3
  obtain ⟨S, hS⟩ := N.most_get (N.lessR R j n) (dr C j)
  rw [hS, Net.f_less hN hj]
  have hm := Net.most_le (R := R) (C := C) hN S
  cases e1 : ob S (N.fr j) <;> cases e2 : ob S (N.sc j)
  ·have e : N.hit S j = false := by simp [Net.hit, e1, e2]
   simp only [cnt, e1, e2, e, cond_false]
   -- no reader of the page is in the set
   rcases h3 with h3 | ⟨T, t1, t2, t3⟩
   ·-- as1 much as1 can be: the page itself, or a reader
    by_cases hc : n = C j
    ·omega
    ·have h4 := (Net.le_alone.1 h1).1
     obtain ⟨i, hi, hri⟩ : ∃ i, N.by j i = true ∧ R i = n := by
      refine Classical.byContradiction fun hno => ?_
      have : n + 1 ≤ N.alone R C j := Net.le_alone.2 ⟨by omega, fun i hi => by
       have q1 := (Net.le_alone.1 h1).2 i hi
       have q2 : R i ≠ n := fun q => hno ⟨i, hi, q⟩
       omega⟩
      omega
     -- the set with that reader
     have h5 := Net.most_le (R := R) (C := C) hN (fun k => S k || decide (k = i))
     have h6 : N.f R C (fun k => S k || decide (k = i)) ≤ N.f R C S + R i - C j := by
      have g1 : sm N.nr (fun k => bif (S k || decide (k = i)) then R k else 0) ≤ sm N.nr (fun k => bif S k then R k else 0) + R i := by
       have := mp (hN.by_lt hi) (R i)
       rw [← this, ← oz]
       refine nm fun k hk => ?_
       have := hR k hk
       by_cases q : k = i
       ·subst q; cases S k <;> simp <;> omega
       ·cases S k <;> simp [q]
      have g2 : sm N.np (fun k => bif N.hit (fun k => S k || decide (k = i)) k then 0 else C k) ≤ sm N.np (fun k => bif N.hit S k then 0 else C k) - C j := by
       have := mp hj (C j)
       rw [← this, ← oy]
       refine nm fun k hk => ?_
       have hck := hC k hk
       have mono : N.hit S k = true → N.hit (fun k => S k || decide (k = i)) k = true := fun q => by
        obtain ⟨x, x1, x2⟩ := Net.hit_iff.1 q
        exact Net.hit_iff.2 ⟨x, x1, by simp [x2]⟩
       by_cases q : k = j
       ·subst q
        rw [show N.hit (fun k => S k || decide (k = i)) k = true from Net.hit_iff.2 ⟨i, hi, by simp⟩, e]
        simp
       ·rw [decide_eq_false q]
        cases q1 : N.hit S k
        ·cases N.hit (fun k => S k || decide (k = i)) k <;> simp <;> omega
        ·rw [mono q1]; simp
      unfold Net.f
      dsimp only
      omega
     omega
   ·-- crossed with a set that has both
    have hx := Net.cross (R := R) (C := dr C j) hN (fun k hk => by unfold dr; cases decide (k = j) <;> simp; exact hC k hk) S T
    have hsub : ∀ U : Nat → Bool, N.f R (dr C j) U = N.f R C U - (bif N.hit U j then 0 else C j) := fun U => by
     have := Net.f_less (R := R) (C := C) hN hj 0 U
     have e0 : N.lessR R j 0 = R := by funext i; unfold Net.lessR; cases N.by j i <;> simp
     rw [e0] at this
     rw [this]
     unfold cnt
     cases ob U (N.fr j) <;> cases ob U (N.sc j) <;> simp
    rw [hsub, hsub, hsub, hsub, e, show N.hit T j = true by simp [Net.hit, t1]] at hx
    obtain ⟨a, ha⟩ : ∃ a, N.fr j = some a := by cases q : N.fr j with
     | none => rw [q] at t1; cases t1
     | some a => exact ⟨a, rfl⟩
    obtain ⟨b, hb⟩ : ∃ b, N.sc j = some b := by cases q : N.sc j with
     | none => rw [q] at t2; cases t2
     | some b => exact ⟨b, rfl⟩
    rw [ha] at t1
    rw [hb] at t2
    have hA : N.hit (mc N.nF S T) j = true := by
     simp only [Net.hit, ha, ob, mc, decide_eq_true (hN.fr j a ha), cond_true]
     rw [show T a = true from t1]; simp
    have hB : N.hit (mb N.nF S T) j = true := by
     have := hN.sc j b hb
     simp only [Net.hit, hb, ob, mb, decide_eq_false (show ¬ b < N.nF by omega), cond_false]
     rw [show T b = true from t2]; simp
    rw [hA, hB] at hx
    simp only [cond_true, cond_false] at hx
    have q1 := Net.most_le (R := R) (C := C) hN (mc N.nF S T)
    have q2 := Net.most_le (R := R) (C := C) hN (mb N.nF S T)
    omega
  ·have e : N.hit S j = true := by simp [Net.hit, e2]
   simp only [cnt, e1, e2, e, cond_false, cond_true]
   omega
  ·have e : N.hit S j = true := by simp [Net.hit, e1]
   simp only [cnt, e1, e2, e, cond_false, cond_true]
   omega
  ·have e : N.hit S j = true := by simp [Net.hit, e1]
   simp only [cnt, e1, e2, e, cond_true]
   have := h2 S e1 e2
   omega
 by_cases hb : ∀ S, ob S (N.fr j) = true → ob S (N.sc j) = true → N.most R C ≤ N.f R C S - N.alone R C j
 ·exact ⟨_, hal, Int.le_refl _, key _ hal (Int.le_refl _) hb (.inl rfl)⟩
 ·-- the rn of those that have both
  have : ∃ m : Int, (∃ S, ob S (N.fr j) = true ∧ ob S (N.sc j) = true ∧ N.f R C S = m) ∧ ∀ S, ob S (N.fr j) = true → ob S (N.sc j) = true → m ≤ N.f R C S := by
   obtain ⟨S0, s1, s2⟩ : ∃ S, ob S (N.fr j) = true ∧ ob S (N.sc j) = true := by
    refine Classical.byContradiction fun hno => hb fun S h1 h2 => absurd ⟨S, h1, h2⟩ hno
   have hlow : ∀ S, ob S (N.fr j) = true → ob S (N.sc j) = true → N.most R C ≤ N.f R C S := fun S _ _ => Net.most_le hN S
   generalize hd : (N.f R C S0 - N.most R C).toNat = d
   induction d using Nat.strongRecOn generalizing S0 with
   | _ d ih =>
    by_cases hmin : ∀ S, ob S (N.fr j) = true → ob S (N.sc j) = true → N.f R C S0 ≤ N.f R C S
    ·exact ⟨_, ⟨S0, s1, s2, rfl⟩, hmin⟩
    ·obtain ⟨S1, hS1⟩ := Classical.not_forall.1 hmin
     obtain ⟨t1, hS2⟩ := Classical.not_imp.1 hS1
     obtain ⟨t2, hS3⟩ := Classical.not_imp.1 hS2
     have hl1 := hlow S1 t1 t2
     have hl0 := hlow S0 s1 s2
     exact ih _ (by omega) S1 t1 t2 rfl
  obtain ⟨m, ⟨S, q1, q2, q3⟩, q4⟩ := this
  have hm := Net.most_le (R := R) (C := C) hN S
  have hlt : m - N.most R C < N.alone R C j := by
   refine Classical.byContradiction fun hno => hb fun T t1 t2 => ?_
   have := q4 T t1 t2
   omega
  exact ⟨m - N.most R C, by omega, by omega, key _ (by omega) (by omega) (fun T t1 t2 => by have := q4 T t1 t2; omega) (.inr ⟨S, q1, q2, by omega⟩)⟩
end
end Go.AB
namespace Go.PB
structure bl where
 id : Int
 miss : Int
 deriving DecidableEq
structure am where
 fr : Int
 to : Int
 fst : Int
 snd : Int
 found : List PlaceD
 well : List PlaceD
 deriving DecidableEq
structure af where
 text : ai
 firsts : List bl
 seconds : List bl
 pages : List am
 deriving DecidableEq
/-- proofs at work -/
structure ck where
 p : af
 words : List Int
 all : List (List PlaceD)
 both : List (List PlaceD)
structure bi where
 lo : Int
 hi : Int
 deriving DecidableEq
end Go.PB
namespace Go.AB
open Go Go.RowKit
open Go.AB.Enc (cells)
open Go.PB (aw ai PlaceD bc bf bd bl am af ck bi)
instance : Enc bl := ⟨fun x => [.v (.int .i64 x.id), .v (.int .i64 x.miss)], 2, fun _ => rfl, fun m x c h => by
 simp only [List.mem_cons, List.not_mem_nil, or_false] at h; rcases h with rfl | rfl <;> exact .v, fun x c h => by
 simp only [List.mem_cons, List.not_mem_nil, or_false] at h; rcases h with rfl | rfl <;> rfl⟩
instance : Enc bi := ⟨fun x => [.v (.int .i64 x.lo), .v (.int .i64 x.hi)], 2, fun _ => rfl, fun m x c h => by
 simp only [List.mem_cons, List.not_mem_nil, or_false] at h; rcases h with rfl | rfl <;> exact .v, fun x c h => by
 simp only [List.mem_cons, List.not_mem_nil, or_false] at h; rcases h with rfl | rfl <;> rfl⟩
instance : Enc am := ⟨fun x => [.v (.int .i64 x.fr), .v (.int .i64 x.to), .v (.int .i64 x.fst), .v (.int .i64 x.snd), lst x.found, lst x.well], 6, fun _ => rfl, fun m x c h => by
 simp only [List.mem_cons, List.not_mem_nil, or_false] at h
 rcases h with rfl | rfl | rfl | rfl | rfl | rfl
 ·exact .v
 ·exact .v
 ·exact .v
 ·exact .v
 ·exact bu m _
 ·exact bu m _, fun x c h => by
 simp only [List.mem_cons, List.not_mem_nil, or_false] at h; rcases h with rfl | rfl | rfl | rfl | rfl | rfl <;> rfl⟩
instance : Enc af := ⟨fun x => [lst x.text, lst x.firsts, lst x.seconds, lst x.pages], 4, fun _ => rfl, fun m x c h => by
 simp only [List.mem_cons, List.not_mem_nil, or_false] at h
 rcases h with rfl | rfl | rfl | rfl
 ·exact bu m _
 ·exact bu m _
 ·exact bu m _
 ·exact bu m _, fun x c h => by
 simp only [List.mem_cons, List.not_mem_nil, or_false] at h; rcases h with rfl | rfl | rfl | rfl <;> rfl⟩
/-! ### Lines of a text -/
/-- the number of a chapter's first line -/
def fk (t : ai) (k : Nat) : Nat := ((t.take k).map fun c => c.lines.length).sum
theorem ua7 (t : ai) : fk t 0 = 0 := by simp [fk]
theorem su {t : ai} {k : Nat} {c : aw} (h : t[k]? = some c) : fk t (k + 1) = fk t k + c.lines.length := by
 unfold fk
 rw [List.take_add_one, h]
 simp
def l7 (t : ai) : Nat := fk t t.length
/-- the number of the line of a place -/
def qe (t : ai) (q : PlaceD) : Int := q.ln + (fk t q.ch.toNat : Int)
def fe (t : ai) (x : am) (q : PlaceD) : Bool := inB (qe t q) x.fr x.to
/-! ### Valid proofs -/
def mh (a b : PlaceD) : Bool := decide (ey (ct a) (ct b) < 0)
/-- a place of a list may stand where it does -/
def jc (t : ai) (x : am) (l : List PlaceD) (i : Nat) : Bool := match l[i]? with
 | none => true
 | some q => fg t q && fe t x q && (decide (i = 0) || match l[i - 1]? with | none => true | some a => mh a q)
def dl (t : ai) (x : am) (l : List PlaceD) (n : Nat) : Bool := (List.range n).all (jc t x l)
theorem gp (t : ai) (x : am) (l : List PlaceD) (n : Nat) : dl t x l (n + 1) = (dl t x l n && jc t x l n) := by
 unfold dl
 rw [List.range_succ, List.all_append]
 simp
def gt (t : ai) (x : am) (r : Int) (l : List PlaceD) : Bool := (decide (0 ≤ r) || decide (l = [])) && dl t x l l.length
def gi (r : bl) : Bool := inB r.id 0 9999 && inB r.miss 0 90
def jg (p : af) : Bool := decide (p.firsts.length ≤ 3) && decide (p.seconds.length ≤ 3) && (p.firsts ++ p.seconds).all gi && decide ((p.firsts ++ p.seconds).map (·.id)).Nodup
def li (p : af) (last : Int) (x : am) : Bool := decide (last < x.fr) && decide (x.fr ≤ x.to) && decide (x.to < (l7 p.text : Int)) && inB x.fst (-1) ((p.firsts.length : Int) - 1) && gt p.text x x.fst x.found && inB x.snd (-1) ((p.seconds.length : Int) - 1) && gt p.text x x.snd x.well
/-- the last line ahead of a page -/
def g6 (l : List am) : Nat → Int
 | 0 => -1
 | i + 1 => match l[i]? with | some x => x.to | none => -1
def ta (p : af) (i : Nat) : Bool := match p.pages[i]? with
 | none => true
 | some x => li p (g6 p.pages i) x
def p9 (p : af) (n : Nat) : Bool := (List.range n).all (ta p)
theorem uca (p : af) (n : Nat) : p9 p (n + 1) = (p9 p n && ta p n) := by
 unfold p9
 rw [List.range_succ, List.all_append]
 simp
def fp (p : af) : Bool := jg p && decide (p.pages.length ≤ 8) && p9 p p.pages.length
def cj (p : af) : Int := bif dc p.text then (bif fp p then 0 else 90) else 10
/-! ### What is found on a page -/
def dg (t : ai) (x : am) : List PlaceD := (da t).filter fun q => decide (q ∈ x.found) || decide (q ∈ x.well)
def dv (t : ai) (x : am) : List PlaceD := (da t).filter fun q => decide (q ∈ x.found) && decide (q ∈ x.well)
def el (t : ai) (x : am) : Nat := ((da t).filter (fe t x)).length
/-! ### Bounds of readers -/
def du (b : Bool) (x : am) : Int := bif b then x.snd else x.fst
def c7 (b : Bool) (x : am) : List PlaceD := bif b then x.well else x.found
def di (p : af) (b : Bool) : List bl := bif b then p.seconds else p.firsts
def cd (l : List am) (g : am → Nat) : Nat := (l.map g).sum
theorem lz {l : List am} {k : Nat} {x : am} {g : am → Nat} (h : l[k]? = some x) : cd (l.take (k + 1)) g = cd (l.take k) g + g x := by
 unfold cd
 rw [List.take_add_one, h]
 simp
def cz (b : Bool) (i : Int) (x : am) : Nat := bif decide (du b x = i) then (c7 b x).length else 0
def dj (t : ai) (b : Bool) (i : Int) (x : am) : Nat := bif decide (du b x = i) then (dg t x).length else 0
def kx (p : af) (b : Bool) (i : Nat) : Int := match (di p b)[i]? with | some r => r.miss | none => 0
def jm (p : af) (b : Bool) (i : Nat) : Int := 100 * (cd p.pages (cz b i) : Int) / (100 - kx p b i)
def k6 (p : af) (b : Bool) (i : Nat) : Int := jm p b i - (cd p.pages (dj p.text b i) : Int)
/-! ### What may remain -/
def bx (p : af) : Nat := p.firsts.length + p.seconds.length
def ci (p : af) (i : Nat) : Int := bif decide (i < p.firsts.length) then k6 p false i else k6 p true (i - p.firsts.length)
def ui (t : ai) (x : am) : Int := (el t x : Int) - ((dg t x).length : Int)
def gx (p : af) : Bool := (List.range (bx p)).all fun i => decide (0 ≤ ci p i)
def bh (p : af) : Net where
 nF := p.firsts.length
 nr := bx p
 np := p.pages.length
 fr := fun j => match p.pages[j]? with | some x => (bif decide (0 ≤ x.fst) then some x.fst.toNat else none) | none => none
 sc := fun j => match p.pages[j]? with | some x => (bif decide (0 ≤ x.snd) then some (p.firsts.length + x.snd.toNat) else none) | none => none
def gr (l : List Int) (i : Nat) : Int := (l[i]?).getD 0
end Go.AB
namespace Go.AB
/-- so much on a page is the most of what loses nothing -/
structure Net.Pick (N : Net) (R C : Nat → Int) (j : Nat) (n : Int) : Prop where
 nn : 0 ≤ n
 le : n ≤ N.alone R C j
 ok : N.most R C ≤ n + N.most (N.lessR R j n) (dr C j)
 max : ∀ m, n < m → m ≤ N.alone R C j → ¬ N.most R C ≤ m + N.most (N.lessR R j m) (dr C j)
section
variable {N : Net} {R C : Nat → Int}
theorem Net.Pick.uniq {j : Nat} {n m : Int} (h : N.Pick R C j n) (k : N.Pick R C j m) : n = m := by
 rcases Int.lt_trichotomy n m with q | q | q
 ·exact absurd k.ok (h.max m q k.le)
 ·exact q
 ·exact absurd h.ok (k.max n q h.le)
theorem Net.pick_ex (hN : N.Ok) (hR : ∀ i, i < N.nr → 0 ≤ R i) (hC : ∀ j, j < N.np → 0 ≤ C j) {j : Nat} (hj : j < N.np) : ∃ n, N.Pick R C j n := by
 obtain ⟨n, h1, h2, h3⟩ := Net.greedy hN hR hC hj
 generalize hd : (N.alone R C j - n).toNat = d
 induction d using Nat.strongRecOn generalizing n with
 | _ d ih =>
  by_cases hmax : ∀ m, n < m → m ≤ N.alone R C j → ¬ N.most R C ≤ m + N.most (N.lessR R j m) (dr C j)
  ·exact ⟨n, h1, h2, h3, hmax⟩
  ·obtain ⟨m, hm⟩ := Classical.not_forall.1 hmax
   obtain ⟨q1, hm⟩ := Classical.not_imp.1 hm
   obtain ⟨q2, hm⟩ := Classical.not_imp.1 hm
   exact ih _ (by omega) m (by omega) q2 (Classical.not_not.1 hm) rfl
open Classical in
noncomputable def Net.pick (N : Net) (R C : Nat → Int) (j : Nat) : Int := if h : ∃ n, N.Pick R C j n then h.choose else 0
theorem Net.pick_spec {j : Nat} (h : ∃ n, N.Pick R C j n) : N.Pick R C j (N.pick R C j) := by
 unfold Net.pick
 rw [dif_pos h]
 exact h.choose_spec
theorem Net.pick_eq {j : Nat} {n : Int} (h : N.Pick R C j n) : N.pick R C j = n := (Net.pick_spec ⟨n, h⟩).uniq h
/-- what may remain ahead of a page, by the worst truth -/
noncomputable def Net.room (N : Net) (R C : Nat → Int) : Nat → (Nat → Int) × (Nat → Int)
 | 0 => (R, C)
 | i + 1 => (N.lessR (N.room R C i).1 i (N.pick (N.room R C i).1 (N.room R C i).2 i), dr (N.room R C i).2 i)
/-- the worst truth -/
noncomputable def Net.worst (N : Net) (R C : Nat → Int) (i : Nat) : Int := N.pick (N.room R C i).1 (N.room R C i).2 i
theorem Net.room_succ (i : Nat) : N.room R C (i + 1) = (N.lessR (N.room R C i).1 i (N.worst R C i), dr (N.room R C i).2 i) := rfl
structure Net.RoomOk (N : Net) (R C : Nat → Int) (i : Nat) : Prop where
 rnn : ∀ r, r < N.nr → 0 ≤ (N.room R C i).1 r
 cnn : ∀ j, j < N.np → 0 ≤ (N.room R C i).2 j
 all : N.most (N.room R C i).1 (N.room R C i).2 = N.most R C - sm i (N.worst R C)
 caps : ∀ j, (N.room R C i).2 j = bif decide (j < i) then 0 else C j
 rds : ∀ r, (N.room R C i).1 r = R r - sm i (fun j => bif N.by j r then N.worst R C j else 0)
theorem Net.room_ok (hN : N.Ok) (hR : ∀ i, i < N.nr → 0 ≤ R i) (hC : ∀ j, j < N.np → 0 ≤ C j) : ∀ i, i ≤ N.np → N.RoomOk R C i
 | 0, _ => ⟨hR, hC, by simp [Net.room, sm], fun j => by simp [Net.room], fun r => by simp [Net.room, sm]⟩
 | i + 1, hi => by
  have h := Net.room_ok hN hR hC i (by omega)
  have hp : N.Pick (N.room R C i).1 (N.room R C i).2 i (N.worst R C i) := Net.pick_spec (Net.pick_ex hN h.rnn h.cnn (by omega))
  have hal := Net.le_alone.1 hp.le
  have hle := Net.less_le (R := (N.room R C i).1) (C := (N.room R C i).2) hN (show i < N.np by omega) hp.nn hal.1
  have hok := hp.ok
  refine ⟨fun r hr => ?_, fun j hj => ?_, ?_, fun j => ?_, fun r => ?_⟩
  ·rw [Net.room_succ]
   show 0 ≤ N.lessR _ i _ r
   unfold Net.lessR
   cases hb : N.by i r
   ·exact h.rnn r hr
   ·have := hal.2 r hb
    simp only [cond_true]; omega
  ·rw [Net.room_succ]
   show 0 ≤ dr _ i j
   unfold dr
   cases decide (j = i)
   ·exact h.cnn j hj
   ·exact Int.le_refl _
  ·rw [Net.room_succ]
   have := h.all
   simp only [sm]
   show N.most (N.lessR _ i _) (dr _ i) = _
   omega
  ·rw [Net.room_succ]
   show dr _ i j = _
   unfold dr
   rw [h.caps j]
   by_cases e : j = i
   ·subst e; simp
   ·rw [decide_eq_false e, cond_false, show decide (j < i + 1) = decide (j < i) by rw [decide_eq_decide]; omega]
  ·rw [Net.room_succ]
   show N.lessR _ i _ r = _
   unfold Net.lessR
   rw [h.rds r]
   simp only [sm]
   cases N.by i r <;> simp <;> omega
theorem Net.worst_pick (hN : N.Ok) (hR : ∀ i, i < N.nr → 0 ≤ R i) (hC : ∀ j, j < N.np → 0 ≤ C j) {i : Nat} (hi : i < N.np) : N.Pick (N.room R C i).1 (N.room R C i).2 i (N.worst R C i) := by
 have h := Net.room_ok hN hR hC i (by omega)
 exact Net.pick_spec (Net.pick_ex hN h.rnn h.cnn hi)
theorem Net.most_nn (hR : ∀ i, i < N.nr → 0 ≤ R i) (hC : ∀ j, j < N.np → 0 ≤ C j) : 0 ≤ N.most R C := by
 obtain ⟨S, hS⟩ := N.most_get R C
 rw [hS]
 have h1 : 0 ≤ sm N.nr (fun i => bif S i then R i else 0) := vd fun i hi => by cases S i; exact Int.le_refl _; exact hR i hi
 have h2 : 0 ≤ sm N.np (fun j => bif N.hit S j then 0 else C j) := vd fun j hj => by cases N.hit S j; exact hC j hj; exact Int.le_refl _
 unfold Net.f
 omega
theorem Net.worst_sum (hN : N.Ok) (hR : ∀ i, i < N.nr → 0 ≤ R i) (hC : ∀ j, j < N.np → 0 ≤ C j) : sm N.np (N.worst R C) = N.most R C := by
 have h := Net.room_ok hN hR hC N.np (Nat.le_refl _)
 have h1 := Net.most_nn h.rnn h.cnn
 have h2 := Net.most_le (R := (N.room R C N.np).1) (C := (N.room R C N.np).2) hN (fun _ => false)
 have h3 : N.f (N.room R C N.np).1 (N.room R C N.np).2 (fun _ => false) = 0 := by
  have e1 : sm N.nr (fun i => bif (fun _ : Nat => false) i then (N.room R C N.np).1 i else 0) = 0 := (gz (h := fun _ => 0) fun i _ => rfl).trans (l4 _)
  have e2 : sm N.np (fun j => bif N.hit (fun _ => false) j then 0 else (N.room R C N.np).2 j) = 0 := (gz (h := fun _ => 0) fun j hj => by
   rw [h.caps j, decide_eq_true hj]
   cases N.hit (fun _ => false) j <;> rfl).trans (l4 _)
  unfold Net.f
  rw [e1, e2]; rfl
 have := h.all
 omega
theorem Net.worst_feas (hN : N.Ok) (hR : ∀ i, i < N.nr → 0 ≤ R i) (hC : ∀ j, j < N.np → 0 ≤ C j) : N.Feas R C (N.worst R C) := by
 refine ⟨fun j hj => ?_, fun r hr => ?_⟩
 ·have hp := Net.worst_pick hN hR hC hj
  have h := Net.room_ok hN hR hC j (by omega)
  have := (Net.le_alone.1 hp.le).1
  rw [h.caps j, decide_eq_false (Nat.lt_irrefl _), cond_false] at this
  exact ⟨hp.nn, this⟩
 ·have h := Net.room_ok hN hR hC N.np (Nat.le_refl _)
  have h1 := h.rnn r hr
  rw [h.rds r] at h1
  omega
theorem xp : ∀ {n i : Nat} {g : Nat → Int} (_ : i ≤ n), sm n g = sm i g + sm n (fun j => bif decide (j < i) then 0 else g j)
 | 0, i, g, h => by
  obtain rfl : i = 0 := by omega
  rfl
 | n + 1, i, g, h => by
  by_cases e : i = n + 1
  ·subst e
   rw [gz (n := n + 1) (g := fun j => bif decide (j < n + 1) then 0 else g j) (h := fun _ => 0) (fun j hj => by rw [decide_eq_true hj]; rfl), l4]
   omega
  ·have := xp (n := n) (i := i) (g := g) (by omega)
   simp only [sm]
   rw [decide_eq_false (show ¬ n < i by omega), cond_false]
   omega
/-- what is left of what may remain, behind the first pages -/
theorem Net.feas_room (hN : N.Ok) (hR : ∀ i, i < N.nr → 0 ≤ R i) (hC : ∀ j, j < N.np → 0 ≤ C j) {y : Nat → Int} (hy : N.Feas R C y) {i : Nat} (hi : i ≤ N.np) (he : ∀ j, j < i → y j = N.worst R C j) : N.Feas (N.room R C i).1 (N.room R C i).2 (fun j => bif decide (j < i) then 0 else y j) := by
 have h := Net.room_ok hN hR hC i hi
 refine ⟨fun j hj => ?_, fun r hr => ?_⟩
 ·rw [h.caps j]
  cases decide (j < i)
  ·exact hy.page j hj
  ·exact ⟨Int.le_refl _, Int.le_refl _⟩
 ·have h1 := hy.rd r hr
  rw [xp hi] at h1
  rw [h.rds r]
  have e1 : sm i (fun j => bif N.by j r then y j else 0) = sm i (fun j => bif N.by j r then N.worst R C j else 0) := gz fun j hj => by rw [he j hj]
  have e2 : sm N.np (fun j => bif N.by j r then (bif decide (j < i) then 0 else y j) else 0) = sm N.np (fun j => bif decide (j < i) then 0 else (bif N.by j r then y j else 0)) := gz fun j _ => by
   cases N.by j r <;> cases decide (j < i) <;> rfl
  rw [e2]
  omega
/-- feasible on what is left when a page is taken -/
theorem Net.feas_less {y : Nat → Int} (hy : N.Feas R C y) {j : Nat} (hj : j < N.np) : N.Feas (N.lessR R j (y j)) (dr C j) (dr y j) := by
 refine ⟨fun k hk => ?_, fun r hr => ?_⟩
 ·unfold dr
  cases decide (k = j)
  ·exact hy.page k hk
  ·exact ⟨Int.le_refl _, Int.le_refl _⟩
 ·have h1 := hy.rd r hr
  have e1 : sm N.np (fun k => bif N.by k r then dr y j k else 0) = sm N.np (fun k => bif N.by k r then y k else 0) - (bif N.by j r then y j else 0) := by
   have := mp hj (bif N.by j r then y j else 0)
   rw [← this, ← oy]
   refine gz fun k _ => ?_
   unfold dr
   by_cases e : k = j
   ·subst e; cases N.by k r <;> simp
   ·rw [decide_eq_false e]; cases N.by k r <;> simp
  rw [e1]
  unfold Net.lessR
  cases N.by j r <;> simp only [cond_true, cond_false] <;> omega
theorem Net.feas_alone {y : Nat → Int} (hN : N.Ok) (hy : N.Feas R C y) {j : Nat} (hj : j < N.np) : y j ≤ N.alone R C j := Net.le_alone.2 ⟨(hy.page j hj).2, fun i hi => by
 have h1 := hy.rd i (hN.by_lt hi)
 have h2 := ubb (n := N.np) (k := j) (g := fun k => bif N.by k i then y k else 0) hj fun k hk => by
  cases N.by k i
  ·exact Int.le_refl _
  ·exact (hy.page k hk).1
 rw [hi] at h2
 exact Int.le_trans h2 h1⟩
theorem uh4 {y : Nat → Int} {n j : Nat} (hj : j < n) : sm n (dr y j) = sm n y - y j := by
 have := mp hj (y j)
 rw [← this, ← oy]
 refine gz fun k _ => ?_
 unfold dr
 by_cases e : k = j
 ·subst e; simp
 ·rw [decide_eq_false e]; simp
/-- no truth has as much that remains, and more on the first page that differs -/
theorem Net.worst_lex (hN : N.Ok) (hR : ∀ i, i < N.nr → 0 ≤ R i) (hC : ∀ j, j < N.np → 0 ≤ C j) {y : Nat → Int} (hy : N.Feas R C y) (hs : sm N.np y = N.most R C) {i : Nat} (hi : i < N.np) (he : ∀ j, j < i → y j = N.worst R C j) : y i ≤ N.worst R C i := by
 have h := Net.room_ok hN hR hC i (by omega)
 have hp := Net.worst_pick hN hR hC hi
 have hf := Net.feas_room hN hR hC hy (by omega) he
 have hyi : (bif decide (i < i) then 0 else y i) = y i := by simp
 have ha := Net.feas_alone hN hf hi
 have hl := Net.feas_less hf hi
 rw [hyi] at ha hl
 have hm : sm N.np (dr (fun j => bif decide (j < i) then 0 else y j) i) ≤ N.most (N.lessR (N.room R C i).1 i (y i)) (dr (N.room R C i).2 i) := by
  obtain ⟨S, hS⟩ := N.most_get (N.lessR (N.room R C i).1 i (y i)) (dr (N.room R C i).2 i)
  rw [hS]
  exact hl.le hN S
 rw [uh4 hi, hyi] at hm
 have h1 := xp (n := N.np) (i := i) (g := y) (by omega)
 have h2 : sm i y = sm i (N.worst R C) := gz he
 have h3 := h.all
 refine Classical.byContradiction fun hno => hp.max (y i) (by omega) ha ?_
 omega
/-- no truth has more that remains -/
theorem Net.feas_most (hN : N.Ok) {y : Nat → Int} (hy : N.Feas R C y) : sm N.np y ≤ N.most R C := by
 obtain ⟨S, hS⟩ := N.most_get R C
 rw [hS]
 exact hy.le hN S
end
end Go.AB
namespace Go.AB
open Go Go.RowKit
open Go.AB.Enc (cells)
open Go.PB (aw ai PlaceD bc bf bd bl am af ck bi)
theorem uhq (g : am → Nat) : ∀ l : List am, ((cd l g : Nat) : Int) = sm l.length (fun j => match l[j]? with | some x => (g x : Int) | none => 0) := by
 intro l
 have key : ∀ k, k ≤ l.length → ((cd (l.take k) g : Nat) : Int) = sm k (fun j => match l[j]? with | some x => (g x : Int) | none => 0) := by
  intro k
  induction k with
  | zero => intro _; rfl
  | succ k ih =>
   intro hk
   have hx : l[k]? = some l[k] := List.getElem?_eq_getElem (by omega)
   rw [lz hx]
   simp only [sm, hx]
   have := ih (by omega)
   omega
 have := key l.length (Nat.le_refl _)
 rwa [List.take_length] at this
/-! ### What valid proofs are -/
structure eb (p : af) : Prop where
 text : dc p.text = true
 nf : p.firsts.length ≤ 3
 ns : p.seconds.length ≤ 3
 np : p.pages.length ≤ 8
 rd : ∀ r ∈ p.firsts ++ p.seconds, gi r = true
 page : ∀ (j : Nat) (x : am), p.pages[j]? = some x → li p (g6 p.pages j) x = true
theorem lu {p : af} (h : cj p = 0) : eb p ∧ fp p = true := by
 unfold cj at h
 cases ht : dc p.text
 ·rw [ht] at h; simp at h
 ·cases hp : fp p
  ·rw [ht, hp] at h; simp at h
  ·refine ⟨?_, rfl⟩
   unfold fp jg at hp
   simp only [Bool.and_eq_true, decide_eq_true_eq] at hp
   obtain ⟨⟨⟨⟨⟨h1, h2⟩, h3⟩, _⟩, h5⟩, h6⟩ := hp
   refine ⟨ht, h1, h2, h5, fun r hr => List.all_eq_true.1 h3 r hr, fun j x hx => ?_⟩
   have hj := (List.getElem?_eq_some_iff.1 hx).1
   have := List.all_eq_true.1 h6 j (List.mem_range.2 hj)
   unfold ta at this
   rw [hx] at this
   exact this
structure ni (p : af) (last : Int) (x : am) : Prop where
 fr : last < x.fr
 to : x.fr ≤ x.to
 lt : x.to < (l7 p.text : Int)
 fst : -1 ≤ x.fst ∧ x.fst ≤ (p.firsts.length : Int) - 1
 snd : -1 ≤ x.snd ∧ x.snd ≤ (p.seconds.length : Int) - 1
 found : gt p.text x x.fst x.found = true
 well : gt p.text x x.snd x.well = true
theorem pageB_true {p : af} {last : Int} {x : am} : li p last x = true ↔ ni p last x := by
 unfold li
 simp only [Bool.and_eq_true, decide_eq_true_eq, inB_true]
 exact ⟨fun ⟨⟨⟨⟨⟨⟨h1, h2⟩, h3⟩, h4⟩, h5⟩, h6⟩, h7⟩ => ⟨h1, h2, h3, h4, h6, h5, h7⟩, fun h => ⟨⟨⟨⟨⟨⟨h.fr, h.to⟩, h.lt⟩, h.fst⟩, h.found⟩, h.snd⟩, h.well⟩⟩
theorem l9 {t : ai} {x : am} {r : Int} {l : List PlaceD} (h : gt t x r l = true) {q : PlaceD} (hq : q ∈ l) : fg t q = true ∧ fe t x q = true := by
 unfold gt at h
 rw [Bool.and_eq_true] at h
 obtain ⟨i, hi⟩ := List.getElem?_of_mem hq
 have := List.all_eq_true.1 h.2 i (List.mem_range.2 (List.getElem?_eq_some_iff.1 hi).1)
 unfold jc at this
 rw [hi] at this
 simp only [Bool.and_eq_true] at this
 exact this.1
theorem ump {t : ai} {x : am} {r : Int} {l : List PlaceD} (h : gt t x r l = true) {i : Nat} {a q : PlaceD} (ha : l[i]? = some a) (hq : l[i + 1]? = some q) : ey (ct a) (ct q) < 0 := by
 unfold gt at h
 rw [Bool.and_eq_true] at h
 have := List.all_eq_true.1 h.2 (i + 1) (List.mem_range.2 (List.getElem?_eq_some_iff.1 hq).1)
 unfold jc at this
 rw [hq, Nat.add_sub_cancel, ha] at this
 have h9 : (fg t q = true ∧ fe t x q = true) ∧ ey (ct a) (ct q) < 0 := by simpa [mh] using this
 exact h9.2
theorem ufg {a b c : PlaceD} (h : ey (ct a) (ct b) < 0) (k : ey (ct b) (ct c) < 0) : ey (ct a) (ct c) < 0 := by
 rw [nd (by rfl)] at h k ⊢
 exact ri h k
theorem z7 (a : PlaceD) : ¬ ey (ct a) (ct a) < 0 := by
 rw [nd (by rfl)]
 exact ph _
theorem uhw {l : List PlaceD} (h : ∀ (i : Nat) (a q : PlaceD), l[i]? = some a → l[i + 1]? = some q → ey (ct a) (ct q) < 0) : l.Pairwise fun a b => ey (ct a) (ct b) < 0 := by
 rw [List.pairwise_iff_getElem]
 intro i j hi hj hij
 have key : ∀ d (hd : i + 1 + d < l.length), ey (ct l[i]) (ct l[i + 1 + d]) < 0 := by
  intro d
  induction d with
  | zero => intro hd; exact h i _ _ (List.getElem?_eq_getElem hi) (List.getElem?_eq_getElem hd)
  | succ d ih =>
   intro hd
   exact ufg (ih (by omega)) (h (i + 1 + d) _ _ (List.getElem?_eq_getElem (by omega)) (List.getElem?_eq_getElem hd))
 have := key (j - (i + 1)) (by omega)
 simpa [show i + 1 + (j - (i + 1)) = j by omega] using this
theorem wr {t : ai} {x : am} {r : Int} {l : List PlaceD} (h : gt t x r l = true) : l.Pairwise fun a b => ey (ct a) (ct b) < 0 := uhw fun _ _ _ ha hq => ump h ha hq
/-- lists in order, with the same places -/
theorem vc : ∀ {l m : List PlaceD}, l.Pairwise (fun a b => ey (ct a) (ct b) < 0) → m.Pairwise (fun a b => ey (ct a) (ct b) < 0) → (∀ q, q ∈ l ↔ q ∈ m) → l = m
 | [], [], _, _, _ => rfl
 | [], b :: m, _, _, h => by have := (h b).2 (List.mem_cons_self ..); cases this
 | a :: l, [], _, _, h => by have := (h a).1 (List.mem_cons_self ..); cases this
 | a :: l, b :: m, h1, h2, h => by
  rw [List.pairwise_cons] at h1 h2
  have hab : a = b := by
   have p1 := (h a).1 (List.mem_cons_self ..)
   have p2 := (h b).2 (List.mem_cons_self ..)
   rw [List.mem_cons] at p1 p2
   rcases p1 with rfl | p1
   ·rfl
   ·rcases p2 with rfl | p2
    ·rfl
    ·exact absurd (ufg (h1.1 b p2) (h2.1 a p1)) (z7 a)
  subst hab
  rw [vc h1.2 h2.2 fun q => ?_]
  constructor
  ·intro hq
   have := (h q).1 (List.mem_cons_of_mem _ hq)
   rw [List.mem_cons] at this
   rcases this with rfl | this
   ·exact absurd (h1.1 q hq) (z7 q)
   ·exact this
  ·intro hq
   have := (h q).2 (List.mem_cons_of_mem _ hq)
   rw [List.mem_cons] at this
   rcases this with rfl | this
   ·exact absurd (h2.1 q hq) (z7 q)
   ·exact this
/-! ### Pages between readers -/
def ms (p : af) (j : Nat) (g : am → Int) : Int := match p.pages[j]? with | some x => g x | none => 0
theorem pc {p : af} {j : Nat} {x : am} (h : p.pages[j]? = some x) (g : am → Int) : ms p j g = g x := by unfold ms; rw [h]
def cp (p : af) (j : Nat) : Int := ms p j (ui p.text)
def d7 (p : af) (j : Nat) : Int := ms p j fun x => ((dg p.text x).length : Int)
def kg (p : af) (j : Nat) : Int := ms p j fun x => (el p.text x : Int)
theorem mx {p : af} (h : eb p) : (bh p).Ok := by
 refine ⟨Nat.le_add_right _ _, fun j i hi => ?_, fun j i hi => ?_⟩
 ·simp only [bh] at hi ⊢
  cases hx : p.pages[j]? with
  | none => rw [hx] at hi; cases hi
  | some x =>
   rw [hx] at hi
   have hp := (pageB_true.1 (h.page j x hx)).fst
   dsimp only at hi
   by_cases q : 0 ≤ x.fst
   ·rw [decide_eq_true q, cond_true, Option.some.injEq] at hi
    omega
   ·rw [decide_eq_false q] at hi; cases hi
 ·simp only [bh, bx] at hi ⊢
  cases hx : p.pages[j]? with
  | none => rw [hx] at hi; cases hi
  | some x =>
   rw [hx] at hi
   have hp := (pageB_true.1 (h.page j x hx)).snd
   dsimp only at hi
   by_cases q : 0 ≤ x.snd
   ·rw [decide_eq_true q, cond_true, Option.some.injEq] at hi
    omega
   ·rw [decide_eq_false q] at hi; cases hi
/-- the readers of a page, as the program lists them -/
def dh (p : af) (x : am) : List Int := (bif decide (0 ≤ x.fst) then [x.fst] else []) ++ (bif decide (0 ≤ x.snd) then [(p.firsts.length : Int) + x.snd] else [])
theorem umd {p : af} {j : Nat} {x : am} (hx : p.pages[j]? = some x) (S : Nat → Bool) : (bh p).hit S j = (dh p x).any fun k => S k.toNat := by
 simp only [Net.hit, bh, hx, dh, List.any_append]
 congr 1
 ·cases decide (0 ≤ x.fst) <;> simp [ob]
 ·by_cases q : 0 ≤ x.snd
  ·simp [q, ob, show ((p.firsts.length : Int) + x.snd).toNat = p.firsts.length + x.snd.toNat by omega]
  ·simp [q, ob]
theorem rz {p : af} (h : eb p) {j : Nat} {x : am} (hx : p.pages[j]? = some x) (i : Nat) : (bh p).by j i = bif decide (i < p.firsts.length) then decide (du false x = (i : Int)) else decide (du true x = ((i - p.firsts.length : Nat) : Int)) := by
 have hp := pageB_true.1 (h.page j x hx)
 have h1 := hp.fst
 have h2 := hp.snd
 simp only [Net.by, bh, hx]
 rw [Bool.eq_iff_iff]
 by_cases hi : i < p.firsts.length
 ·rw [decide_eq_true hi, cond_true, Bool.or_eq_true, decide_eq_true_eq, decide_eq_true_eq, decide_eq_true_eq]
  show _ ↔ x.fst = (i : Int)
  constructor
  ·rintro (q | q)
   ·by_cases z : 0 ≤ x.fst
    ·rw [decide_eq_true z, cond_true, Option.some.injEq] at q; omega
    ·rw [decide_eq_false z] at q; cases q
   ·by_cases z : 0 ≤ x.snd
    ·rw [decide_eq_true z, cond_true, Option.some.injEq] at q; omega
    ·rw [decide_eq_false z] at q; cases q
  ·intro q
   left
   rw [decide_eq_true (show 0 ≤ x.fst by omega), cond_true, Option.some.injEq]
   omega
 ·rw [decide_eq_false hi, cond_false, Bool.or_eq_true, decide_eq_true_eq, decide_eq_true_eq, decide_eq_true_eq]
  show _ ↔ x.snd = ((i - p.firsts.length : Nat) : Int)
  constructor
  ·rintro (q | q)
   ·by_cases z : 0 ≤ x.fst
    ·rw [decide_eq_true z, cond_true, Option.some.injEq] at q; omega
    ·rw [decide_eq_false z] at q; cases q
   ·by_cases z : 0 ≤ x.snd
    ·rw [decide_eq_true z, cond_true, Option.some.injEq] at q; omega
    ·rw [decide_eq_false z] at q; cases q
  ·intro q
   right
   rw [decide_eq_true (show 0 ≤ x.snd by omega), cond_true, Option.some.injEq]
   omega
theorem umi {p : af} {last : Int} {x : am} (h : ni p last x) : (dg p.text x).length ≤ el p.text x := by
 unfold dg el
 rw [← List.countP_eq_length_filter, ← List.countP_eq_length_filter]
 refine List.countP_mono_left fun q _ hq => ?_
 rw [Bool.or_eq_true, decide_eq_true_eq, decide_eq_true_eq] at hq
 rcases hq with hq | hq
 ·exact (l9 h.found hq).2
 ·exact (l9 h.well hq).2
theorem qk {p : af} (h : eb p) (j : Nat) : 0 ≤ cp p j := by
 unfold cp ms
 cases hx : p.pages[j]? with
 | none => exact Int.le_refl _
 | some x =>
  have := umi (pageB_true.1 (h.page j x hx))
  show 0 ≤ ui p.text x
  unfold ui
  omega
def kd (p : af) (i : Nat) : Int := bif decide (i < p.firsts.length) then jm p false i else jm p true (i - p.firsts.length)
/-- of the bound of a reader is left what is not told -/
theorem udh {p : af} (h : eb p) (i : Nat) : ci p i = kd p i - sm p.pages.length (fun j => bif (bh p).by j i then d7 p j else 0) := by
 have key : ∀ (b : Bool) (k : Int), (∀ (j : Nat) (x : am), p.pages[j]? = some x → (bh p).by j i = decide (du b x = k)) → ((cd p.pages (dj p.text b k) : Nat) : Int) = sm p.pages.length (fun j => bif (bh p).by j i then d7 p j else 0) := fun b k hb => by
  rw [uhq]
  refine gz fun j hj => ?_
  have hx : p.pages[j]? = some p.pages[j] := List.getElem?_eq_getElem hj
  rw [hb j _ hx]
  unfold d7
  rw [pc hx, hx]
  dsimp only
  unfold dj
  cases decide (du b p.pages[j] = k) <;> rfl
 unfold ci kd
 by_cases hi : i < p.firsts.length
 ·rw [decide_eq_true hi, cond_true, cond_true]
  unfold k6
  rw [key false i fun j x hx => by rw [rz h hx, decide_eq_true hi, cond_true]]
 ·rw [decide_eq_false hi, cond_false, cond_false]
  unfold k6
  rw [key true _ fun j x hx => by rw [rz h hx, decide_eq_false hi, cond_false]]
/-- errors on all pages that are a truth -/
def i1 (p : af) (es : List Int) : Bool := decide (es.length = p.pages.length) && (List.range p.pages.length).all (fun j => inB (gr es j) (d7 p j) (kg p j)) && (List.range (bx p)).all fun i => decide (sm p.pages.length (fun j => bif (bh p).by j i then gr es j else 0) ≤ kd p i)
theorem uha {p : af} (h : eb p) {es : List Int} : i1 p es = true ↔ es.length = p.pages.length ∧ (bh p).Feas (ci p) (cp p) (fun j => gr es j - d7 p j) := by
 unfold i1
 simp only [Bool.and_eq_true, decide_eq_true_eq, List.all_eq_true, List.mem_range, inB_true]
 have hcap : ∀ j, j < p.pages.length → cp p j = kg p j - d7 p j := fun j hj => by
  have hx : p.pages[j]? = some p.pages[j] := List.getElem?_eq_getElem hj
  unfold cp kg d7
  rw [pc hx, pc hx, pc hx]
  rfl
 have hsub : ∀ i, sm p.pages.length (fun j => bif (bh p).by j i then gr es j - d7 p j else 0) = sm p.pages.length (fun j => bif (bh p).by j i then gr es j else 0) - sm p.pages.length (fun j => bif (bh p).by j i then d7 p j else 0) := fun i => by
  rw [← oy]
  exact gz fun j _ => by cases (bh p).by j i <;> simp
 constructor
 ·rintro ⟨⟨h1, h2⟩, h3⟩
  refine ⟨h1, fun j hj => ?_, fun i hi => ?_⟩
  ·have := h2 j hj
   have := hcap j hj
   omega
  ·have := h3 i hi
   have e := udh h i
   have := hsub i
   show sm p.pages.length _ ≤ _
   omega
 ·rintro ⟨h1, h2⟩
  refine ⟨⟨h1, fun j hj => ?_⟩, fun i hi => ?_⟩
  ·have := h2.page j hj
   have := hcap j hj
   omega
  ·have q : sm p.pages.length (fun j => bif (bh p).by j i then gr es j - d7 p j else 0) ≤ ci p i := h2.rd i hi
   have e := udh h i
   have := hsub i
   omega
end Go.AB
namespace Go.AB
open Go Go.RowKit
open Go.AB.Enc (cells)
/-- the numbers of a set -/
def vy (n s : Nat) : List Nat := (List.range n).filter fun i => s.testBit i
def ep (n s : Nat) : List Int := (vy n s).map fun i : Nat => (i : Int)
theorem uc8 (n s : Nat) : ep (n + 1) s = ep n s ++ (bif s.testBit n then [(n : Int)] else []) := by
 unfold ep vy
 rw [List.range_succ, List.filter_append, List.map_append]
 cases h : s.testBit n <;> simp [h]
theorem tr (n s : Nat) : (ep n s).length ≤ n := by
 unfold ep vy
 rw [List.length_map]
 have := List.length_filter_le (fun i => s.testBit i) (List.range n)
 rwa [List.length_range] at this
theorem membersL_mem {n s : Nat} {x : Int} : x ∈ ep n s ↔ ∃ i : Nat, x = (i : Int) ∧ i < n ∧ s.testBit i = true := by
 unfold ep vy
 simp only [List.mem_map, List.mem_filter, List.mem_range]
 exact ⟨fun ⟨i, ⟨h1, h2⟩, h3⟩ => ⟨i, h3.symm, h1, h2⟩, fun ⟨i, h3, h1, h2⟩ => ⟨i, ⟨h1, h2⟩, h3.symm⟩⟩
/-- the order of lists: shorter ones first, then by their numbers -/
def im (a b : List Int) : Bool := decide (a.length < b.length) || (decide (a.length = b.length) && decide (ey a b < 0))
theorem ufh {a b : List Int} : im a b = true ↔ a.length < b.length ∨ (a.length = b.length ∧ ltW a b) := by
 unfold im
 rw [Bool.or_eq_true, Bool.and_eq_true, decide_eq_true_eq, decide_eq_true_eq, decide_eq_true_eq]
 constructor
 ·rintro (h | ⟨h1, h2⟩)
  ·exact .inl h
  ·exact .inr ⟨h1, (nd h1).1 h2⟩
 ·rintro (h | ⟨h1, h2⟩)
  ·exact .inl h
  ·exact .inr ⟨h1, (nd h1).2 h2⟩
theorem ufi (a : List Int) : im a a = false := by
 rw [← Bool.not_eq_true, ufh]
 rintro (h | ⟨_, h⟩)
 ·omega
 ·exact ph a h
theorem un6 {a b c : List Int} (h : im a b = true) (k : im b c = true) : im a c = true := by
 rw [ufh] at *
 rcases h with h | ⟨h1, h2⟩
 ·rcases k with k | ⟨k1, _⟩
  ·exact .inl (by omega)
  ·exact .inl (by omega)
 ·rcases k with k | ⟨k1, k2⟩
  ·exact .inl (by omega)
  ·exact .inr ⟨by omega, ri h2 k2⟩
/-- what is found among the first sets -/
def ez (so : Nat → Bool) (n : Nat) : Nat → Option (List Int)
 | 0 => none
 | k + 1 => match ez so n k with
  | none => bif so k then some (ep n k) else none
  | some b => bif so k && im (ep n k) b then some (ep n k) else some b
def ne (so : Nat → Bool) (n : Nat) : List Int := (ez so n (2 ^ n)).getD []
structure uo0 (so : Nat → Bool) (n k : Nat) (b : List Int) : Prop where
 get : ∃ s, s < k ∧ so s = true ∧ b = ep n s
 min : ∀ s, s < k → so s = true → im (ep n s) b = false
theorem w4 (so : Nat → Bool) (n : Nat) : ∀ k, (ez so n k = none ∧ ∀ s, s < k → so s = false) ∨ ∃ b, ez so n k = some b ∧ uo0 so n k b
 | 0 => .inl ⟨rfl, fun s h => absurd h (Nat.not_lt_zero _)⟩
 | k + 1 => by
  rcases w4 so n k with ⟨h1, h2⟩ | ⟨b, h1, h2⟩
  ·simp only [ez, h1]
   cases hs : so k
   ·exact .inl ⟨rfl, fun s h => by
     by_cases e : s = k
     ·subst e; exact hs
     ·exact h2 s (by omega)⟩
   ·exact .inr ⟨_, rfl, ⟨k, by omega, hs, rfl⟩, fun s h hso => by
     by_cases e : s = k
     ·subst e; exact ufi _
     ·rw [h2 s (by omega)] at hso; cases hso⟩
  ·simp only [ez, h1]
   right
   cases hs : so k && im (ep n k) b
   ·refine ⟨b, rfl, ?_, fun s h hso => ?_⟩
    ·obtain ⟨s, q1, q2, q3⟩ := h2.get
     exact ⟨s, by omega, q2, q3⟩
    ·by_cases e : s = k
     ·subst e
      rw [hso, Bool.true_and] at hs
      exact hs
     ·exact h2.min s (by omega) hso
   ·rw [Bool.and_eq_true] at hs
    refine ⟨_, rfl, ⟨k, by omega, hs.1, rfl⟩, fun s h hso => ?_⟩
    by_cases e : s = k
    ·subst e; exact ufi _
    ·rw [← Bool.not_eq_true]
     intro hb
     have := un6 hb hs.2
     rw [h2.min s (by omega) hso] at this
     cases this
theorem uff (so : Nat → Bool) (n : Nat) : (ne so n).length ≤ n := by
 unfold ne
 rcases w4 so n (2 ^ n) with ⟨h, _⟩ | ⟨b, h, k⟩
 ·rw [h]; exact Nat.zero_le _
 ·rw [h]
  obtain ⟨s, _, _, rfl⟩ := k.get
  exact tr n s
theorem ufe {so : Nat → Bool} {n k : Nat} (h : ez so n k = none) : ez so n (k + 1) = bif so k then some (ep n k) else none := by simp only [ez, h]
theorem z6 {so : Nat → Bool} {n k : Nat} {b : List Int} (h : ez so n k = some b) : ez so n (k + 1) = bif so k && im (ep n k) b then some (ep n k) else some b := by simp only [ez, h]
/-! ### Lists of numbers that are looked up -/
def bp (n : Nat) (R : Nat → Int) : List Int := (List.range n).map R
theorem gd (n : Nat) (R : Nat → Int) : (bp n R).length = n := by simp [bp]
theorem ja {n i : Nat} (R : Nat → Int) (h : i < n) : (bp n R)[i]? = some (R i) := by simp [bp, h]
theorem sr (n : Nat) (R : Nat → Int) : bp (n + 1) R = bp n R ++ [R n] := by
 unfold bp
 rw [List.range_succ, List.map_append]; rfl
theorem uho {n : Nat} {R R' : Nat → Int} (h : ∀ i, i < n → R i = R' i) : bp n R = bp n R' := by
 unfold bp
 exact List.map_congr_left fun i hi => h i (List.mem_range.1 hi)
theorem qv {n i : Nat} (R : Nat → Int) (v : Int) (h : i < n) : (bp n R).set i v = bp n fun k => bif decide (k = i) then v else R k := by
 apply List.ext_getElem?
 intro k
 rw [List.getElem?_set, gd]
 by_cases hk : k < n
 ·rw [ja (fun k => bif decide (k = i) then v else R k) hk, ja R hk]
  by_cases e : i = k
  ·subst e; rw [if_pos rfl, if_pos h, decide_eq_true rfl]; rfl
  ·rw [if_neg e, decide_eq_false (Ne.symm e)]; rfl
 ·rw [List.getElem?_eq_none (by rw [gd]; omega)]
  rw [if_neg (by omega), List.getElem?_eq_none (by rw [gd]; omega)]
theorem uhn {n i : Nat} (R : Nat → Int) (h : i < n) : gr (bp n R) i = R i := by unfold gr; rw [ja R h]; rfl
end Go.AB
namespace Go.AB
open Go Go.RowKit
open Go.AB.Enc (cells)
open Go.PB (aw ai PlaceD bc bf bd bl am af ck bi)
/-! ### All places are in order -/
theorem uoe (t : ai) : (da t).Pairwise fun a b => ey (ct a) (ct b) < 0 := by
 unfold da
 rw [List.pairwise_map, List.pairwise_iff_getElem]
 intro i j hi hj hij
 have h1 := List.getElem?_eq_getElem hi
 have h2 := List.getElem?_eq_getElem hj
 have h := ukq (uf1 h1).1 (uf1 h2).1
 rw [yl h1 rfl, yl h2 rfl] at h
 rw [nd (by rfl), ← h]
 omega
theorem allQ_mem {t : ai} {q : PlaceD} : q ∈ da t ↔ fg t q = true := allP_mem
theorem wt {t : ai} (f : PlaceD → Bool) : ((da t).filter f).Pairwise fun a b => ey (ct a) (ct b) < 0 := (uoe t).filter _
/-- places in order, of a text, are those of all places that are among them -/
theorem uh3 {t : ai} {l : List PlaceD} (h : l.Pairwise fun a b => ey (ct a) (ct b) < 0) (hp : ∀ q ∈ l, fg t q = true) : l = (da t).filter fun q => decide (q ∈ l) :=
 vc h (wt _) fun q => by
  rw [List.mem_filter, decide_eq_true_eq, allQ_mem]
  exact ⟨fun h => ⟨hp q h, h⟩, fun h => h.2⟩
theorem umq {t : ai} {x : am} {r : Int} {l : List PlaceD} (h : gt t x r l = true) : l = (da t).filter fun q => decide (q ∈ l) := uh3 (wr h) fun q hq => (l9 h hq).1
theorem lm {t : ai} {x : am} {r : Int} {l : List PlaceD} (h : gt t x r l = true) : l.length ≤ (da t).length := by
 rw [umq h]
 exact List.length_filter_le _ _
theorem rt (t : ai) (x : am) : (dg t x).length ≤ (da t).length := List.length_filter_le _ _
theorem ufa (t : ai) (x : am) : (dv t x).length ≤ (da t).length := List.length_filter_le _ _
theorem uv (t : ai) (x : am) : el t x ≤ (da t).length := List.length_filter_le _ _
/-! ### How great numbers are -/
theorem xm {g : am → Nat} {m : Nat} : ∀ {l : List am}, (∀ x ∈ l, g x ≤ m) → cd l g ≤ l.length * m
 | [], _ => by simp [cd]
 | x :: l, h => by
  have h1 := xm (l := l) fun y hy => h y (List.mem_cons_of_mem _ hy)
  have h2 := h x (List.mem_cons_self ..)
  simp only [cd, List.map_cons, List.sum_cons, List.length_cons] at h1 ⊢
  rw [Nat.succ_mul]
  omega
theorem yf {p : af} (h : eb p) (b : Bool) (i : Int) : cd p.pages (cz b i) ≤ 4800 := by
 have hq := lg h.text
 have h1 := xm (l := p.pages) (g := cz b i) (m := 600) fun x hx => by
  obtain ⟨j, hj⟩ := List.getElem?_of_mem hx
  have hp := pageB_true.1 (h.page j x hj)
  unfold cz
  cases decide (du b x = i)
  ·exact Nat.zero_le _
  ·cases b
   ·have := lm hp.found
    show x.found.length ≤ 600
    omega
   ·have := lm hp.well
    show x.well.length ≤ 600
    omega
 have := h.np
 have h2 : p.pages.length * 600 ≤ 8 * 600 := Nat.mul_le_mul_right _ this
 omega
theorem x7 {p : af} (h : eb p) (b : Bool) (i : Int) : cd p.pages (dj p.text b i) ≤ 4800 := by
 have hq := lg h.text
 have h1 := xm (l := p.pages) (g := dj p.text b i) (m := 600) fun x hx => by
  have := rt p.text x
  unfold dj
  cases decide (du b x = i)
  ·exact Nat.zero_le _
  ·show (dg p.text x).length ≤ 600
   omega
 have := h.np
 have h2 : p.pages.length * 600 ≤ 8 * 600 := Nat.mul_le_mul_right _ this
 omega
theorem yr {p : af} (h : eb p) (b : Bool) (i : Nat) : 0 ≤ kx p b i ∧ kx p b i ≤ 90 := by
 unfold kx
 cases hr : (di p b)[i]? with
 | none => exact ⟨Int.le_refl _, by show (0 : Int) ≤ 90; omega⟩
 | some r =>
  have hm := List.mem_of_getElem? hr
  have : gi r = true := h.rd r (by
   rw [List.mem_append]
   cases b
   ·exact .inl hm
   ·exact .inr hm)
  unfold gi at this
  rw [Bool.and_eq_true, inB_true, inB_true] at this
  exact this.2
theorem wz {p : af} (h : eb p) (b : Bool) (i : Nat) : 0 ≤ jm p b i ∧ jm p b i ≤ 48000 := by
 have h1 := yf h b i
 have h2 := yr h b i
 unfold jm
 have h3 : (0 : Int) < 100 - kx p b i := by omega
 refine ⟨Int.ediv_nonneg (by omega) (by omega), ?_⟩
 have h4 : 100 * ((cd p.pages (cz b i) : Nat) : Int) / (100 - kx p b i) ≤ 100 * ((cd p.pages (cz b i) : Nat) : Int) / 10 := by
  refine Int.le_ediv_of_mul_le (by omega) ?_
  have h5 := Int.ediv_mul_le (100 * ((cd p.pages (cz b i) : Nat) : Int)) (show (100 - kx p b i) ≠ 0 by omega)
  have h6 : 0 ≤ 100 * ((cd p.pages (cz b i) : Nat) : Int) / (100 - kx p b i) := Int.ediv_nonneg (by omega) (by omega)
  have h7 : 100 * ((cd p.pages (cz b i) : Nat) : Int) / (100 - kx p b i) * 10 ≤ 100 * ((cd p.pages (cz b i) : Nat) : Int) / (100 - kx p b i) * (100 - kx p b i) := Int.mul_le_mul_of_nonneg_left (by omega) h6
  omega
 omega
theorem udj {p : af} (h : eb p) (b : Bool) (i : Nat) : -4800 ≤ k6 p b i ∧ k6 p b i ≤ 48000 := by
 have h1 := wz h b i
 have h2 := x7 h b i
 unfold k6
 omega
theorem ult {p : af} (h : eb p) (i : Nat) : -4800 ≤ ci p i ∧ ci p i ≤ 48000 := by
 unfold ci
 cases decide (i < p.firsts.length)
 ·exact udj h _ _
 ·exact udj h _ _
theorem zy {p : af} (h : eb p) (j : Nat) : 0 ≤ cp p j ∧ cp p j ≤ 600 := by
 refine ⟨qk h j, ?_⟩
 have hq := lg h.text
 unfold cp ms
 cases hx : p.pages[j]? with
 | none => show (0 : Int) ≤ 600; omega
 | some x =>
  have := uv p.text x
  show ui p.text x ≤ 600
  unfold ui
  omega
/-! ### What is told -/
section
def ed (p : af) (n : Int) : Int := bif decide (cj p = 0) then (bif inB n 0 ((p.pages.length : Int) - 1) then 0 else 2) else cj p
def et (p : af) (e : Int) : Int := bif decide (e = 0) then (bif gx p then 0 else 8) else e
def j3 (p : af) (b : Bool) (n : Int) : Int := bif decide (cj p = 0) then (bif inB n 0 (((di p b).length : Int) - 1) then 0 else 2) else cj p
def i0 (p : af) (m : Int) : Int := bif decide (cj p = 0) then (bif decide (m < 0) then 2 else bif gx p then 0 else 8) else cj p
def atE {α : Type} (e : Int) (d v : α) : α := bif decide (e = 0) then v else d
def l5 (p : af) (n : Int) : am := (p.pages[n.toNat]?).getD ⟨0, 0, 0, 0, [], []⟩
def px (p : af) (n : Int) : Int := atE (ed p n) 0 (el p.text (l5 p n) : Int)
def pm (p : af) (n : Int) : List PlaceD := atE (ed p n) [] (dg p.text (l5 p n))
def r5 (p : af) (n : Int) : List PlaceD := atE (ed p n) [] (dv p.text (l5 p n))
def oq (p : af) (b : Bool) (n : Int) : Int := atE (j3 p b n) 0 (jm p b n.toNat)
def m7 (p : af) (n : Int) : Int := bif decide (ed p n = 0) then (bif decide ((dv p.text (l5 p n)).length = 0) then 6 else 0) else ed p n
def za (x : am) (k : Nat) : bi := ⟨((x.found.length * x.well.length / k : Nat) : Int), (((x.found.length * x.well.length + k - 1) / k : Nat) : Int)⟩
def n9 (p : af) (n : Int) : bi := atE (m7 p n) ⟨0, 0⟩ (za (l5 p n) (dv p.text (l5 p n)).length)
def n1 (p : af) (n : Int) : bi := atE (et p (ed p n)) ⟨0, 0⟩ ⟨0, (bh p).alone (ci p) (cp p) n.toNat⟩
def py (p : af) : Int := (bh p).most (ci p) (cp p)
def ox (p : af) : bi := atE (et p (cj p)) ⟨0, 0⟩ ⟨0, py p⟩
noncomputable def fj (p : af) : Nat → Int := (bh p).worst (ci p) (cp p)
noncomputable def nj (p : af) : List Int := atE (et p (cj p)) [] (bp p.pages.length (fj p))
def qu (p : af) (s : Nat) : Bool := decide ((bh p).f (ci p) (cp p) (fun i => s.testBit i) = py p)
def gw (p : af) : List Int := ne (qu p) (bx p)
def nk (p : af) (l : List Int) : List Int := l.filter fun k => decide (k < (p.firsts.length : Int))
def mo (p : af) (l : List Int) : List Int := (l.filter fun k => !decide (k < (p.firsts.length : Int))).map fun k => k - (p.firsts.length : Int)
def kf (C : Nat → Int) (l : List Int) (j : Nat) : Int := bif decide ((j : Int) ∈ l) then 0 else C j
def uf3 (p : af) (l : List Int) : Int := (bh p).most (ci p) (kf (cp p) l)
def uh (p : af) (m : Int) (s : Nat) : Bool := decide (uf3 p (ep p.pages.length s) ≤ m)
def jy (p : af) (m : Int) : List Int := atE (i0 p m) [] (ne (uh p m) p.pages.length)
end
theorem ugd (C : Nat → Int) : kf C [] = C := by funext j; simp [kf]
theorem ugc (C : Nat → Int) (l : List Int) (i : Nat) : kf C (l ++ [(i : Int)]) = dr (kf C l) i := by
 funext j
 unfold kf dr
 by_cases e : j = i
 ·subst e; simp
 ·rw [decide_eq_false e, cond_false]
  congr 1
  rw [decide_eq_decide, List.mem_append, List.mem_singleton]
  constructor
  ·rintro (h | h)
   ·exact h
   ·omega
  ·exact .inl
theorem ulo (N : Net) (R : Nat → Int) (j : Nat) : N.lessR R j 0 = R := by
 funext i
 unfold Net.lessR
 cases N.by j i <;> simp
theorem nl {p : af} (h : gx p = true) : ∀ i, i < (bh p).nr → 0 ≤ ci p i := fun i hi => by
 have := List.all_eq_true.1 h i (List.mem_range.2 hi)
 exact of_decide_eq_true this
end Go.AB
namespace Go.AB
open Go Go.RowKit
open Go.AB.Enc (cells)
open Go.PB (aw ai PlaceD bc bf bd bl am af ck bi)
/-! ### Readers who miss less -/
end Go.AB
namespace Go.AB
open Go Go.RowKit
open Go.AB.Enc (cells)
open Go.PB (aw ai PlaceD bc bf bd bl am af ck bi)
end Go.AB
namespace Go.AB
open Go Go.RowKit
open Go.AB.Enc (cells)
open Go.PB (aw ai PlaceD bc bf bd bl am af ck bi)
end Go.AB
namespace Go.AB
open Go Go.RowKit
open Go.AB.Enc (cells)
open Go.PB (aw ai PlaceD bc bf bd bl am af ck bi)
end Go.AB
namespace Go.AB
open Go Go.RowKit
open Go.AB.Enc (cells)
open Go.PB (aw ai PlaceD bc bf bd bl am af ck bi)
/-- as much as can be on a page, if nothing is lost by it -/
theorem Net.pick_alone {N : Net} {R C : Nat → Int} {j : Nat} (h0 : 0 ≤ N.alone R C j) (h : N.most R C ≤ N.alone R C j + N.most (N.lessR R j (N.alone R C j)) (dr C j)) : N.pick R C j = N.alone R C j :=
 Net.pick_eq ⟨h0, Int.le_refl _, h, fun m h1 h2 => by omega⟩
def mj : ByteArray := ⟨#[116, 104, 101]⟩
def iw : ByteArray := ⟨#[115, 101, 97]⟩
def xIs : ByteArray := ⟨#[105, 115]⟩
def ml : ByteArray := ⟨#[111, 108, 100]⟩
def sj : ByteArray := ⟨#[97, 110, 100]⟩
def exTx : ai := [⟨7, [[mj, iw, xIs, ml], [ml, mj, iw]]⟩, ⟨3, [[iw, sj, iw]]⟩]
def exPg : List am := [⟨0, 0, 0, 0, [⟨0, 0, 0⟩], [⟨0, 0, 0⟩, ⟨0, 0, 3⟩]⟩, ⟨1, 2, 0, -1, [⟨0, 1, 1⟩], []⟩]
def exPr : af := ⟨exTx, [⟨1, 50⟩, ⟨2, 0⟩], [⟨3, 60⟩], exPg⟩
theorem uq : et exPr (cj exPr) = 0 := by decide +kernel
theorem xp_words : px exPr 1 = 6 ∧ ed exPr 1 = 0 ∧ px exPr 0 = 4 ∧ ed exPr 0 = 0 := ⟨by decide +kernel, by decide +kernel, by decide +kernel, by decide +kernel⟩
theorem xp_found : pm exPr 0 = [⟨0, 0, 0⟩, ⟨0, 0, 3⟩] ∧ r5 exPr 0 = [⟨0, 0, 0⟩] := ⟨by decide +kernel, by decide +kernel⟩
theorem xp_guess : n9 exPr 0 = ⟨2, 2⟩ ∧ m7 exPr 0 = 0 := ⟨by decide +kernel, by decide +kernel⟩
theorem xp_remain : n1 exPr 1 = ⟨0, 1⟩ ∧ et exPr (ed exPr 1) = 0 ∧ n1 exPr 0 = ⟨0, 1⟩ ∧ et exPr (ed exPr 0) = 0 := ⟨by decide +kernel, by decide +kernel, by decide +kernel, by decide +kernel⟩
theorem ugf : ox exPr = ⟨0, 1⟩ := by decide +kernel
theorem xp_why : nk exPr (gw exPr) = [0] ∧ mo exPr (gw exPr) = [] := ⟨by decide +kernel, by decide +kernel⟩
theorem xp_bound : oq exPr false 0 = 4 ∧ j3 exPr false 0 = 0 ∧ oq exPr false 1 = 0 ∧ j3 exPr false 1 = 0 ∧ oq exPr true 0 = 5 ∧ j3 exPr true 0 = 0 := ⟨by decide +kernel, by decide +kernel, by decide +kernel, by decide +kernel, by decide +kernel, by decide +kernel⟩
theorem xp_chief : jy exPr 0 = [0, 1] ∧ i0 exPr 0 = 0 ∧ jy exPr 1 = [] ∧ i0 exPr 1 = 0 := ⟨by decide +kernel, by decide +kernel, by decide +kernel, by decide +kernel⟩
theorem uge : nj exPr = [1, 0] := by
 have h0 : fj exPr 0 = 1 := by
  have := Net.pick_alone (N := bh exPr) (R := ci exPr) (C := cp exPr) (j := 0) (by decide +kernel) (by decide +kernel)
  exact this.trans (by decide +kernel)
 have h1 : fj exPr 1 = 0 := by
  have e : fj exPr 1 = (bh exPr).pick ((bh exPr).lessR (ci exPr) 0 1) (dr (cp exPr) 0) 1 := by
   show (bh exPr).pick ((bh exPr).lessR (ci exPr) 0 (fj exPr 0)) (dr (cp exPr) 0) 1 = _
   rw [h0]
  have := Net.pick_alone (N := bh exPr) (R := (bh exPr).lessR (ci exPr) 0 1) (C := dr (cp exPr) 0) (j := 1) (by decide +kernel) (by decide +kernel)
  exact e.trans (this.trans (by decide +kernel))
 unfold nj
 rw [uq]
 show [fj exPr 0, fj exPr 1] = _
 rw [h0, h1]
end Go.AB
namespace Go.AB
open Go Go.RowKit
open Go.AB.Enc (cells)
open Go.PB (aw ai PlaceD bc bf bd bl am af ck bi)
/-- who is found by one reader alone, so far -/
def f7 (F W : List PlaceD) (q : PlaceD) : Bool := decide (q ∈ F) != decide (q ∈ W)
theorem ukl (F : List PlaceD) (q : PlaceD) : f7 F [] q = decide (q ∈ F) := by simp [f7]
theorem xo {l : List PlaceD} (h : l.Pairwise fun a b => ey (ct a) (ct b) < 0) : l.Nodup := h.imp fun {a b} hab e => by
 rw [nd (by rfl)] at hab
 subst e
 exact ph _ hab
theorem uhl {l : List PlaceD} (h : l.Nodup) {k : Nat} {q : PlaceD} (hq : l[k]? = some q) : q ∉ l.take k := fun hm => by
 obtain ⟨i, hi⟩ := List.getElem?_of_mem hm
 have hik : i < k := by have := (List.getElem?_eq_some_iff.1 hi).1; rw [List.length_take] at this; omega
 rw [List.getElem?_take_of_lt hik] at hi
 obtain ⟨h1, h2⟩ := List.getElem?_eq_some_iff.1 hi
 obtain ⟨h3, h4⟩ := List.getElem?_eq_some_iff.1 hq
 have := (List.pairwise_iff_getElem.1 h) i k h1 h3 hik
 exact this (h2.trans h4.symm)
/-- the place at hand is in the map if the first reader found it -/
theorem vr {F W : List PlaceD} (hW : W.Nodup) {k : Nat} {q : PlaceD} (hq : W[k]? = some q) : f7 F (W.take k) q = decide (q ∈ F) := by
 unfold f7
 rw [decide_eq_false (uhl hW hq)]
 cases decide (q ∈ F) <;> rfl
theorem ucp {F W : List PlaceD} (hW : W.Nodup) {k : Nat} {q : PlaceD} (hq : W[k]? = some q) (x : PlaceD) : f7 F (W.take (k + 1)) x = bif decide (x = q) then !decide (q ∈ F) else f7 F (W.take k) x := by
 have hm : decide (x ∈ W.take (k + 1)) = (decide (x ∈ W.take k) || decide (x = q)) := by
  rw [List.take_add_one, hq, Option.toList_some, Bool.eq_iff_iff]
  simp
 by_cases e : x = q
 ·subst e
  unfold f7
  rw [hm, decide_eq_true (rfl : x = x), Bool.or_true, cond_true]
  cases decide (x ∈ F) <;> rfl
 ·unfold f7
  rw [hm, decide_eq_false e, Bool.or_false, cond_false]
/-- what both found so far -/
def mg (F W : List PlaceD) (k : Nat) : List PlaceD := (W.take k).filter fun q => decide (q ∈ F)
theorem ue8 {F W : List PlaceD} {k : Nat} {q : PlaceD} (hq : W[k]? = some q) : mg F W (k + 1) = mg F W k ++ bif decide (q ∈ F) then [q] else [] := by
 unfold mg
 rw [List.take_add_one, hq, Option.toList_some, List.filter_append]
 cases h : decide (q ∈ F) <;> simp [h]
theorem ue9 (F W : List PlaceD) (k : Nat) : (mg F W k).length ≤ W.length := by
 unfold mg
 have := List.length_filter_le (fun q => decide (q ∈ F)) (W.take k)
 rw [List.length_take] at this
 omega
theorem unx {p : af} {last : Int} {x : am} (h : ni p last x) : mg x.found x.well x.well.length = dv p.text x := by
 have hs : (mg x.found x.well x.well.length).Pairwise fun a b => ey (ct a) (ct b) < 0 := by
  unfold mg
  rw [List.take_length]
  exact (wr h.well).filter _
 refine vc hs (wt _) fun q => ?_
 unfold mg
 rw [List.take_length, List.mem_filter, decide_eq_true_eq]
 show _ ↔ q ∈ (da p.text).filter _
 rw [List.mem_filter, Bool.and_eq_true, decide_eq_true_eq, decide_eq_true_eq, allQ_mem]
 exact ⟨fun ⟨h1, h2⟩ => ⟨(l9 h.well h1).1, h2, h1⟩, fun ⟨_, h2, h3⟩ => ⟨h3, h2⟩⟩
/-- both's places, and those of one alone in any order, put in order: all that are found -/
theorem ufu {p : af} {last : Int} {x : am} (h : ni p last x) {ks s : List PlaceD} (hn : ks.Nodup) (hk : ∀ q, q ∈ ks ↔ f7 x.found x.well q = true) (hp : s.Perm (dv p.text x ++ ks)) (hs : s.Pairwise fun a b => ¬ ey (ct b) (ct a) < 0) : s = dg p.text x := by
 have hmb : ∀ q, q ∈ dv p.text x ↔ q ∈ x.found ∧ q ∈ x.well := fun q => by
  show q ∈ (da p.text).filter _ ↔ _
  rw [List.mem_filter, Bool.and_eq_true, decide_eq_true_eq, decide_eq_true_eq, allQ_mem]
  exact ⟨fun h => h.2, fun h2 => ⟨(l9 h.well h2.2).1, h2⟩⟩
 have hko : ∀ q, f7 x.found x.well q = true ↔ (q ∈ x.found ∧ q ∉ x.well) ∨ (q ∉ x.found ∧ q ∈ x.well) := fun q => by
  unfold f7
  by_cases h1 : q ∈ x.found <;> by_cases h2 : q ∈ x.well <;> simp [h1, h2]
 have hnd : (dv p.text x ++ ks).Nodup := by
  rw [List.nodup_append]
  refine ⟨xo (wt _), hn, fun a ha b hb e => ?_⟩
  subst e
  have h1 := (hmb a).1 ha
  rcases (hko a).1 ((hk a).1 hb) with h2 | h2
  ·exact h2.2 h1.2
  ·exact h2.1 h1.1
 have hsn : s.Nodup := hp.nodup_iff.2 hnd
 have hs2 : s.Pairwise fun a b => ey (ct a) (ct b) < 0 := by
  have := List.Pairwise.and hs hsn
  refine this.imp fun {a b} hab => ?_
  rw [nd (by rfl)] at hab ⊢
  refine Classical.byContradiction fun hno => hab.2 ?_
  exact ul8 (yx (by rfl) hno hab.1)
 refine vc hs2 (wt _) fun q => ?_
 rw [hp.mem_iff, List.mem_append, hmb, hk, hko]
 show _ ↔ q ∈ (da p.text).filter _
 rw [List.mem_filter, Bool.or_eq_true, decide_eq_true_eq, decide_eq_true_eq, allQ_mem]
 constructor
 ·rintro (⟨h1, h2⟩ | ⟨h1, _⟩ | ⟨_, h2⟩)
  ·exact ⟨(l9 h.found h1).1, .inl h1⟩
  ·exact ⟨(l9 h.found h1).1, .inl h1⟩
  ·exact ⟨(l9 h.well h2).1, .inr h2⟩
 ·rintro ⟨_, h1 | h1⟩
  ·by_cases h2 : q ∈ x.well
   ·exact .inl ⟨h1, h2⟩
   ·exact .inr (.inl ⟨h1, h2⟩)
  ·by_cases h2 : q ∈ x.found
   ·exact .inl ⟨h2, h1⟩
   ·exact .inr (.inr ⟨h2, h1⟩)
/-! ### The words of a page, line by line -/
def fm (t : ai) (x : am) (l : List PlaceD) : Nat := (l.filter (fe t x)).length
theorem uas (t : ai) (x : am) {k n : Nat} {c : aw} {l : List ByteArray} (hn : c.lines[n]? = some l) : fm t x (gk t k c.lines (n + 1)) = fm t x (gk t k c.lines n) + bif inB ((fk t k : Int) + (n : Int)) x.fr x.to then l.length else 0 := by
 have e : gk t k c.lines (n + 1) = gk t k c.lines n ++ (jr k n l).map (·.1) := by
  unfold gk
  rw [zw k hn, List.map_append, List.append_assoc]
 unfold fm
 rw [e, List.filter_append, List.length_append]
 congr 1
 have hall : ∀ q ∈ (jr k n l).map (·.1), fe t x q = inB ((fk t k : Int) + (n : Int)) x.fr x.to := fun q hq => by
  obtain ⟨y, hy, rfl⟩ := List.mem_map.1 hq
  obtain ⟨w, hw, rfl⟩ := List.mem_mapIdx.1 hy
  show inB (qe t ⟨(k : Int), (n : Int), (w : Int)⟩) x.fr x.to = _
  unfold qe
  dsimp only
  rw [Int.toNat_natCast, Int.add_comm]
 have hlen : ((jr k n l).map (·.1)).length = l.length := by rw [List.length_map]; unfold jr; rw [List.length_mapIdx]
 cases hb : inB ((fk t k : Int) + (n : Int)) x.fr x.to
 ·rw [List.filter_eq_nil_iff.2 fun q hq => by rw [hall q hq, hb]; simp]; rfl
 ·rw [List.filter_eq_self.2 fun q hq => by rw [hall q hq, hb], hlen]; rfl
theorem ugr (t : ai) (x : am) : fm t x (da t) = el t x := rfl
end Go.AB
namespace Go.AB
open Go Go.RowKit
open Go.AB.Enc (cells)
open Go.PB (aw ai PlaceD bc bf bd bl am af ck bi)
section
variable {N : Net} {R C : Nat → Int}
theorem Net.Feas.congr {y z : Nat → Int} (h : N.Feas R C y) (e : ∀ j, j < N.np → y j = z j) : N.Feas R C z := by
 refine ⟨fun j hj => by rw [← e j hj]; exact h.page j hj, fun i hi => ?_⟩
 have : sm N.np (fun j => bif N.by j i then z j else 0) = sm N.np (fun j => bif N.by j i then y j else 0) := gz fun j hj => by rw [e j hj]
 rw [this]
 exact h.rd i hi
theorem Net.feas_zero (hR : ∀ i, i < N.nr → 0 ≤ R i) (hC : ∀ j, j < N.np → 0 ≤ C j) : N.Feas R C fun _ => 0 := by
 refine ⟨fun j hj => ⟨Int.le_refl _, hC j hj⟩, fun i hi => ?_⟩
 have : sm N.np (fun j => bif N.by j i then (0 : Int) else 0) = 0 := (gz (h := fun _ => 0) fun j _ => by cases N.by j i <;> rfl).trans (l4 _)
 rw [this]
 exact hR i hi
/-- so much on one page, and nothing on others -/
def ko (i : Nat) (v : Int) (j : Nat) : Int := bif decide (j = i) then v else 0
theorem Net.feas_one {i : Nat} (hi : i < N.np) (hR : ∀ i, i < N.nr → 0 ≤ R i) (hC : ∀ j, j < N.np → 0 ≤ C j) {v : Int} (h0 : 0 ≤ v) : N.Feas R C (ko i v) ↔ ((∀ r, N.by i r = true → r < N.nr) → v ≤ N.alone R C i) ∧ (∀ r, N.by i r = true → r < N.nr) ∨ N.Feas R C (ko i v) := ⟨.inr, fun h => h.elim (fun h => by
 have hv := Net.le_alone.1 (h.1 h.2)
 refine ⟨fun j hj => ?_, fun r hr => ?_⟩
 ·unfold ko
  by_cases e : j = i
  ·subst e; simp [h0, hv.1]
  ·rw [decide_eq_false e]; exact ⟨Int.le_refl _, hC j hj⟩
 ·have : sm N.np (fun j => bif N.by j r then ko i v j else 0) = bif N.by i r then v else 0 := by
   rw [← mp hi (bif N.by i r then v else 0)]
   refine gz fun j _ => ?_
   unfold ko
   by_cases e : j = i
   ·subst e; simp
   ·rw [decide_eq_false e]; cases N.by j r <;> rfl
  rw [this]
  cases hb : N.by i r
  ·exact hR r hr
  ·exact hv.2 r hb) id⟩
theorem Net.feas_one_of (hN : N.Ok) {i : Nat} (hi : i < N.np) (hR : ∀ i, i < N.nr → 0 ≤ R i) (hC : ∀ j, j < N.np → 0 ≤ C j) {v : Int} (h0 : 0 ≤ v) (hv : v ≤ N.alone R C i) : N.Feas R C (ko i v) := (Net.feas_one hi hR hC h0).2 (.inl ⟨fun _ => hv, fun _ h => hN.by_lt h⟩)
theorem Net.feas_one_le (hN : N.Ok) {i : Nat} (hi : i < N.np) {v : Int} (h : N.Feas R C (ko i v)) : v ≤ N.alone R C i := by
 have := Net.feas_alone hN h hi
 unfold ko at this
 simpa using this
theorem Net.alone_nn (hN : N.Ok) {i : Nat} (hi : i < N.np) (hR : ∀ i, i < N.nr → 0 ≤ R i) (hC : ∀ j, j < N.np → 0 ≤ C j) : 0 ≤ N.alone R C i := Net.le_alone.2 ⟨hC i hi, fun r hr => hR r (hN.by_lt hr)⟩
theorem Net.alone_most (hN : N.Ok) {i : Nat} (hi : i < N.np) (hR : ∀ i, i < N.nr → 0 ≤ R i) (hC : ∀ j, j < N.np → 0 ≤ C j) : N.alone R C i ≤ N.most R C := by
 have h := Net.feas_most hN (Net.feas_one_of hN hi hR hC (Net.alone_nn hN hi hR hC) (Int.le_refl _))
 rwa [show sm N.np (ko i (N.alone R C i)) = N.alone R C i from mp hi _] at h
end
theorem ux {p : af} (h : eb p) (y : Nat → Int) : i1 p (bp p.pages.length fun j => d7 p j + y j) = true ↔ (bh p).Feas (ci p) (cp p) y := by
 have e : ∀ j, j < p.pages.length → gr (bp p.pages.length fun j => d7 p j + y j) j - d7 p j = y j := fun j hj => by
  rw [uhn _ hj]; omega
 rw [uha h]
 exact ⟨fun k => k.2.congr e, fun k => ⟨gd _ _, k.congr fun j hj => (e j hj).symm⟩⟩
/-- without a truth nothing that is told is one -/
theorem uav {p : af} (h : eb p) : i1 p (bp p.pages.length (d7 p)) = gx p := by
 have e : (d7 p) = fun j => d7 p j + (fun _ => (0 : Int)) j := by funext j; simp
 rw [Bool.eq_iff_iff, e, ux h]
 constructor
 ·intro k
  refine List.all_eq_true.2 fun i hi => decide_eq_true ?_
  have := k.rd i (List.mem_range.1 hi)
  rwa [(gz (h := fun _ => 0) fun j _ => by cases (bh p).by j i <;> rfl).trans (l4 _)] at this
 ·exact fun k => Net.feas_zero (nl k) fun j _ => qk h j
end Go.AB
namespace Go.PB
structure cy where
 readers : List Int
 pages : List Int
 read : List (List Int)
/-- the reference's: readers and pages alone -/
structure c6 where
 readers : List Int
 pages : List Int
end Go.PB
namespace Go.AB
open Go Go.RowKit
open Go.AB.Enc (cells)
open Go.PB (aw ai PlaceD bc bf bd bl am af ck bi cy c6)
instance : Enc cy := ⟨fun x => [lst x.readers, lst x.pages, lst x.read], 3, fun _ => rfl, fun m x c h => by
 simp only [List.mem_cons, List.not_mem_nil, or_false] at h
 rcases h with rfl | rfl | rfl
 ·exact bu m _
 ·exact bu m _
 ·exact bu m _, fun x c h => by
 simp only [List.mem_cons, List.not_mem_nil, or_false] at h; rcases h with rfl | rfl | rfl <;> rfl⟩
def f4 (p : af) (R C : Nat → Int) : cy := ⟨bp (bx p) R, bp p.pages.length C, p.pages.map (dh p)⟩
/-- numbers that no sum of takes too far -/
structure Bd (p : af) (R C : Nat → Int) : Prop where
 r : ∀ i, -1000000 ≤ R i ∧ R i ≤ 1000000
 c : ∀ j, 0 ≤ C j ∧ C j ≤ 1000000
 nr : bx p ≤ 6
 np : p.pages.length ≤ 8
theorem uj {p : af} (h : eb p) : Bd p (ci p) (cp p) := ⟨fun i => by have := ult h i; omega, fun j => by have := zy h j; omega, by have := h.nf; have := h.ns; unfold bx; omega, h.np⟩
/-- what some first readers of a set have -/
def fR (R : Nat → Int) (S : Nat → Bool) (i : Nat) : Int := sm i fun k => bif S k then R k else 0
def fC (p : af) (C : Nat → Int) (S : Nat → Bool) (j : Nat) : Int := sm j fun k => bif (bh p).hit S k then 0 else C k
theorem uef (p : af) (R C : Nat → Int) (S : Nat → Bool) : (bh p).f R C S = fR R S (bx p) + fC p C S p.pages.length := rfl
theorem xq {g : Nat → Int} {m : Int} (h : ∀ i, -m ≤ g i ∧ g i ≤ m) : ∀ n : Nat, -(n * m) ≤ sm n g ∧ sm n g ≤ n * m
 | 0 => by simp [sm]
 | n + 1 => by
  have h1 := xq h n
  have h2 := h n
  have e : ((n + 1 : Nat) : Int) * m = (n : Int) * m + m := by rw [Int.natCast_add, Int.add_mul]; simp
  simp only [sm]
  omega
theorem zl {p : af} {R C : Nat → Int} (h : Bd p R C) (S : Nat → Bool) (i : Nat) (hi : i ≤ bx p) : -6000000 ≤ fR R S i ∧ fR R S i ≤ 6000000 := by
 have := xq (g := fun k => bif S k then R k else 0) (m := 1000000) (fun k => by cases S k; simp; exact h.r k) i
 have := h.nr
 unfold fR
 omega
theorem uek {p : af} {R C : Nat → Int} (h : Bd p R C) (S : Nat → Bool) (j : Nat) (hj : j ≤ p.pages.length) : 0 ≤ fC p C S j ∧ fC p C S j ≤ 8000000 := by
 have h1 := xq (g := fun k => bif (bh p).hit S k then 0 else C k) (m := 1000000) (fun k => by have := h.c k; cases (bh p).hit S k; simp; omega; simp) j
 have h2 := vd (n := j) (g := fun k => bif (bh p).hit S k then 0 else C k) fun k _ => by have := h.c k; cases (bh p).hit S k; exact this.1; exact Int.le_refl _
 have := h.np
 unfold fC
 omega
theorem f_bd {p : af} {R C : Nat → Int} (h : Bd p R C) (S : Nat → Bool) : -6000000 ≤ (bh p).f R C S ∧ (bh p).f R C S ≤ 14000000 := by
 have h1 := zl h S _ (Nat.le_refl _)
 have h2 := uek h S _ (Nat.le_refl _)
 rw [uef]
 omega
theorem uc7 {g : Nat → Int} {a b : Int} (h : ∀ s, a ≤ g s ∧ g s ≤ b) (k : Nat) : a ≤ lk g k ∧ lk g k ≤ b := by
 obtain ⟨s, _, e⟩ := yu (g := g) k
 rw [e]
 exact h s
theorem uc3 {p : af} {R C : Nat → Int} (h : Bd p R C) : -6000000 ≤ (bh p).most R C ∧ (bh p).most R C ≤ 14000000 := uc7 (fun s => f_bd h _) _
end Go.AB
namespace Go.AB
open Go Go.RowKit
open Go.AB.Enc (cells)
section
variable {P : Program} {o : Oper} {st : St} {K : St → Prop}
end
end Go.AB
namespace Go.AB
open Go Go.RowKit Go.Shelf Go.Proofs
open Go.AB.Enc (cells)
section
variable {P : Program} {o : Oper} {st : St} {K : St → Prop}
theorem ukc {E : Env} {w : World} {v : Value} {n ver len : Nat} (hp : R E w (.own n ver len) v) : ∃ a cap, v = .slice a len cap ∧ n < E.nx ∧ len ≤ cap ∧ cap ≤ maxLen ∧ ∀ ver' wv val, E.T n = some (ver', wv, val) → ver ≤ ver' ∧ (ver = ver' → ∃ m, len ≤ m ∧ val = .slice a m cap) := by
 cases hp with
 | own h1 h2 h3 h4 => exact ⟨_, _, rfl, h1, h2, h3, h4⟩
/-- append of nothing onto an own slice. -/
theorem uk5 {t e : TypeId} {sz bytes n ver m : Nat} [AppT P t e sz bytes] {s x : Operand} {tk : Tok} (ho : o.op = .call { callee := .builtin .append, args := #[s, x], argTypes := #[t, t] }) (hs : evC st s = .own n ver m) (hx : evC st x = .list [] tk) : NStep P o st (.own n ver m) := fun E w a hsim => by
 obtain ⟨ht, i, z, hie, hz, h1, h2, h3⟩ := AppT.spec (P := P) (t := t) (e := e) (sz := sz) (bytes := bytes)
 have hown := hs ▸ hsim.ev s
 obtain ⟨ad, cap, e1, q1, q2, q3, q4⟩ := ukc hown
 obtain ⟨ao, c, _, _, e3, _⟩ := (hx ▸ hsim.ev x).list_inv
 refine ⟨a.eval s, hown, fun w' => ?_⟩
 have hrun := sx (P := P) w' t o.type e i ht hie ad ao m cap c q2
 simp only [execOp, ho, resolve, invoke, builtin, Sem.run_bind, Sem.run_pure, Result.andThen_ok, List.map_toArray, List.map_cons, List.map_nil, e1, e3]
 rw [List.length_nil] at *
 rw [hrun]; rfl
/-- append of data onto an own slice. -/
theorem rx {α : Type} [Enc α] {t e : TypeId} {bytes n ver wv : Nat} [AppT P t e (Enc.n α) bytes] {s x : Operand} {tk : Tok} {rows : List (List C)} {xs : List α} {m : Nat} {cs : List C} (ys : List α) (ho : o.op = .call { callee := .builtin .append, args := #[s, x], argTypes := #[t, t] }) (hs : evC st s = .own n ver m) (hG : st.G n = some (.arr ver wv e (Enc.n α) m cs)) (hc : cs = c5 xs) (hm : m = xs.length) (hx : evC st x = .list rows tk) (hy : rows = ys.map cells) (hb : (xs.length + ys.length) * bytes ≤ 140737488355328) (hmax : xs.length + ys.length ≤ 9223372036854775807)
  (h : ∀ v : Nat, K (St.put { st with G := ak st.G n (.arr v wv e (Enc.n α) (xs ++ ys).length (c5 (xs ++ ys))) } o.dst (.own n v (xs ++ ys).length))) : EStep P o st K := by
 subst hc; subst hm; subst hy
 by_cases h0 : ys = []
 ·subst h0
  have h1 := h ver
  simp only [List.append_nil] at h1
  have h2 : ak st.G n (.arr ver wv e (Enc.n α) xs.length (c5 xs)) = st.G := by
   funext k
   simp only [ak]
   split
   ·rename_i e; rw [e, hG]
   ·rfl
  rw [h2] at h1
  exact SStep.e' (NStep.s (D := fun _ => True) (uk5 ho hs hx)) h1
 ·refine unb ho hs hG hx (ll ys) (by simpa using hb) (by simpa using hmax) (by simpa using h0) ?_
  have h1 := h (ver + 1)
  rw [uea] at h1
  simpa [c5] using h1
end
end Go.AB
namespace Go.AB
open Go Go.RowKit
open Go.AB.Enc (cells)
open Go.PB (aw ai PlaceD bc bf bd bl am af ck bi cy c6)
/-- the first of some numbers that is not nought -/
def orN (xs : List Int) : Int := (xs.find? fun x => !decide (x = 0)).getD 0
theorem uke {xs : List Int} {k : Nat} {x : Int} (hx : xs[k]? = some x) (hne : x ≠ 0) (h : ∀ y ∈ xs.take k, y = 0) : orN xs = x := by
 unfold orN
 rw [List.find?_eq_some_iff_append.2 ⟨by simpa using hne, xs.take k, xs.drop (k + 1), ?_, fun y hy => by simp [h y hy]⟩]
 ·rfl
 obtain ⟨h1, h2⟩ := List.getElem?_eq_some_iff.1 hx
 rw [← h2, ← List.drop_eq_getElem_cons h1, List.take_append_drop]
theorem ukg {xs : List Int} (h : ∀ y ∈ xs, y = 0) : orN xs = 0 := by
 unfold orN
 rw [List.find?_eq_none.2 fun y hy => by simp [h y hy]]
 rfl
theorem ula {α : Type} {l : List α} {k : Nat} {x : α} {p : α → Prop} (hx : l[k]? = some x) (hp : p x) (h : ∀ y ∈ l.take k, p y) : ∀ y ∈ l.take (k + 1), p y := fun y hy => by
 rw [List.take_add_one, hx] at hy
 simp only [Option.toList_some, List.mem_append, List.mem_singleton] at hy
 rcases hy with hy | rfl
 ·exact h y hy
 exact hp
def lj (a b : PlaceD) : Int := ey (ct a) (ct b)
theorem ukf (a b : PlaceD) : orN [g7 a.ch b.ch, g7 a.ln b.ln, g7 a.wd b.wd] = lj a b := by
 unfold orN lj ct
 simp only [ey]
 by_cases h1 : g7 a.ch b.ch = 0
 ·by_cases h2 : g7 a.ln b.ln = 0
  ·by_cases h3 : g7 a.wd b.wd = 0 <;> simp [h1, h2, h3]
  simp [h1, h2]
 simp [h1]
/-- the order of lists, shorter ones first -/
def xu (a b : List Int) : Int := orN [(a.length : Int) - (b.length : Int), ey a b]
theorem vf (a b : List Int) : decide (xu a b < 0) = im a b := by
 unfold xu orN im
 by_cases h1 : (a.length : Int) - (b.length : Int) = 0
 ·have h2 : a.length = b.length := by omega
  have h3 : ¬ a.length < b.length := by omega
  by_cases h4 : ey a b = 0
  ·simp [h2, h4]
  simp [h2, h4]
 have h2 : ¬ a.length = b.length := by omega
 by_cases h3 : a.length < b.length
 ·have : (a.length : Int) - (b.length : Int) < 0 := by omega
  simp [h1, h2, h3, this]
 have : ¬ (a.length : Int) - (b.length : Int) < 0 := by omega
 simp [h1, h2, h3, this]
def l3 (t : ai) (k : Nat) : List Int := (List.range k).map fun i => (fk t i : Int)
theorem ua5 (t : ai) (k : Nat) : (l3 t k).length = k := by simp [l3]
theorem ua6 {t : ai} {k i : Nat} (h : i < k) : (l3 t k)[i]? = some (fk t i : Int) := by simp [l3, h]
theorem uh1 (t : ai) (k : Nat) : l3 t (k + 1) = l3 t k ++ [(fk t k : Int)] := by
 unfold l3
 rw [List.range_succ, List.map_append]; rfl
theorem u7 {t : ai} (ht : dc t = true) (k : Nat) (hk : k ≤ t.length) : fk t k ≤ 60 := by
 obtain ⟨h1, h2, h3⟩ := ki ht
 have key : ∀ k, k ≤ t.length → fk t k ≤ 10 * k := by
  intro k
  induction k with
  | zero => intro _; rw [ua7]; exact Nat.zero_le _
  | succ k ih =>
   intro hk
   have hc : t[k]? = some t[k] := List.getElem?_eq_getElem (by omega)
   rw [su hc]
   have := ih (by omega)
   have := (h3 _ (fq hc)).2.1
   omega
 have := key k hk
 omega
end Go.AB
namespace Go.Proofs.YtbbdginipiljdaaGreatDoor
set_option maxRecDepth 10000
open Go.RowKit Go.AB
open Go.AB.Enc (cells)
open Go.PB (aw ai PlaceD bc bf bd bl am af ck bi cy c6)
theorem ucf (xs : List Int) : Pure Tryz.prog 92 [lst xs] (.v (.int .i64 (orN xs))) := by
 refine cn Tryz.func92 rfl (fun m => .v) fun G nx => ?_
 simp only [Tryz.ntmps92, List.length_cons, List.length_nil, Nat.reduceAdd, Nat.reduceSub]
 refine bq fun hlt => ?_
 dsimp only at hlt
 refine ld 0 (fun hf => ?_)
 replace hf := (fit_lst.1 hf).1
 refine yS fun _ K1 => ?_
 refine yR ?_
 refine yA rfl rfl ?_
 refine yN ?_
 dsimp only [St.put]
 refine K1 _ ?_
 refine yS fun _ K2 => ?_
 refine yR ?_
 refine yA rfl rfl ?_
 refine yN ?_
 dsimp only [St.put]
 refine K2 _ ?_
 refine yS fun _ K3 => ?_
 refine yS fun _ K4 => ?_
 refine yR ?_
 refine yM rfl rfl ?_
 refine aa rfl (bg rfl rfl (List.length_map _)) ?_
 refine yM rfl rfl ?_
 refine yN ?_
 dsimp only [St.put]
 refine K4 _ ?_
 refine ba ?_
 refine cc 9 ?_
 refine zQ ?_
 refine cr (G) zX ?_
 dsimp only
 refine cv (X := Nat) (fun k => k ≤ xs.length ∧ ∀ y ∈ xs.take k, y = 0) (fun k => xs.length - k) (fun k => [(4, .any), (5, .any), (8, .v (.int .i64 (k : Int)))]) (fun k G' => G') 0 rfl ?_ ?_ (fun _ _ h => h) ?_ ?_ ?_
 ·exact ⟨by simp, by simp⟩
 ·exact zF
 ·rintro k hI
  exact zL
 ·exact fun _ _ _ _ h => .inl h
 rintro k hI
 dsimp only at hI ⊢
 refine yS fun _ K5 => ?_
 refine yR ?_
 refine aa rfl (ce rfl rfl rfl) ?_
 refine yN ?_
 dsimp only [St.put]
 refine K5 _ ?_
 refine yS fun _ K6 => ?_
 refine aq rfl (fun hc => ?_) (fun hc => ?_)
 ·replace hc := of_decide_eq_true hc
  obtain ⟨x, hx⟩ : ∃ x, xs[k]? = some x := cw (by omega)
  refine av ?_
  refine K6 _ ?_
  refine yS fun _ K7 => ?_
  refine ba ?_
  refine yS fun _ K8 => ?_
  refine yR ?_
  refine aa rfl (bk rfl rfl rfl rfl (bj (by assumption)) (Enc.len _)) ?_
  refine yL rfl rfl rfl ?_
  refine yA rfl rfl ?_
  refine yN ?_
  dsimp only [St.put]
  refine K8 _ ?_
  refine yS fun _ K9 => ?_
  refine yR ?_
  refine yM rfl rfl ?_
  refine yM rfl rfl ?_
  refine aa rfl (eh rfl rfl rfl) ?_
  refine yN ?_
  dsimp only [St.put]
  refine K9 _ ?_
  refine aq rfl (fun hc => ?_) (fun hc => ?_)
  ·replace hc := ji hc
   refine yS fun _ K10 => ?_
   refine yR ?_
   refine yM rfl rfl ?_
   refine yA rfl rfl ?_
   refine yN ?_
   dsimp only [St.put]
   refine K10 _ ?_
   refine ar ?_
   refine az rfl (by constructor) zN zS ?_
   exact vi (uke hx hc hI.2).symm
  replace hc := g3 hc
  refine av ?_
  refine K7 _ ?_
  refine yR ?_
  refine aa rfl (bn rfl rfl rfl (by omega)) ?_
  refine yM rfl rfl ?_
  refine yN ?_
  dsimp only [St.put]
  exact ⟨k + 1, by omega, ⟨by omega, ula hx hc hI.2⟩, ⟨⟨rfl, rfl⟩, zF, zB, zN, zX⟩⟩
 try replace hc := of_decide_eq_false hc
 refine co ?_
 refine K3 _ ?_
 refine yS fun _ K11 => ?_
 refine yR ?_
 refine yM rfl rfl ?_
 refine yA rfl rfl ?_
 refine yN ?_
 dsimp only [St.put]
 refine K11 _ ?_
 refine ar ?_
 refine az rfl (by constructor) zN zS ?_
 exact vi (by
  rw [ukg]
  have := hI.2
  rwa [ga (by omega)] at this)
theorem uj4 (n lo hi : Int) : Pure Tryz.prog 96 [.v (.int .i64 n), .elem [.v (.int .i64 lo)], .elem [.v (.int .i64 hi)]] (.v (.bool (l6 n lo hi))) := by
 refine cn Tryz.func96 rfl (fun m => .v) fun G nx => ?_
 simp only [Tryz.ntmps96, List.length_cons, List.length_nil, Nat.reduceAdd, Nat.reduceSub]
 refine bq fun hlt => ?_
 dsimp only at hlt
 refine yS fun _ K1 => ?_
 refine yR ?_
 refine yA rfl rfl ?_
 refine yN ?_
 dsimp only [St.put]
 refine K1 _ ?_
 refine yS fun _ K2 => ?_
 refine yR ?_
 refine yM rfl rfl ?_
 refine yL rfl rfl rfl ?_
 refine aa rfl (ce rfl rfl rfl) ?_
 refine ef (fun hs => ?_) (fun hs => ?_)
 ·try replace hs := of_decide_eq_true hs
  refine yM rfl rfl ?_
  refine yK rfl ?_
  refine yK rfl ?_
  refine yK rfl ?_
  refine aa rfl (br rfl rfl (by constructor)) ?_
  refine yA rfl rfl ?_
  refine yN ?_
  dsimp only [St.put]
  refine K2 _ ?_
  refine ar ?_
  refine az rfl (by constructor) zN zS ?_
  exact vb (by simp [l6, hs]; try omega)
 try replace hs := of_decide_eq_false hs
 refine yM rfl rfl ?_
 refine yM rfl rfl ?_
 refine yL rfl rfl rfl ?_
 refine aa rfl (g4 rfl rfl rfl) ?_
 refine aa rfl (cb rfl rfl (by constructor)) ?_
 refine yA rfl rfl ?_
 refine yN ?_
 dsimp only [St.put]
 refine K2 _ ?_
 refine ar ?_
 refine az rfl (by constructor) zN zS ?_
 exact vb (by simp [l6, hs]; try omega)
theorem mu (lo hi : Int) (xs : List Int) : Pure Tryz.prog 76 [.v (.int .i64 lo), .v (.int .i64 hi), lst xs] (.v (.bool (we lo hi xs))) := by
 refine cn Tryz.func76 rfl (fun m => .v) fun G nx => ?_
 simp only [Tryz.ntmps76, List.length_cons, List.length_nil, Nat.reduceAdd, Nat.reduceSub]
 refine bq fun hlt => ?_
 dsimp only at hlt
 refine yS fun _ K1 => ?_
 refine yR ?_
 try dsimp only [St.put]
 refine yB rfl rfl rfl ?_
 try dsimp only [St.put]
 refine yB rfl rfl rfl ?_
 refine yA rfl rfl ?_
 refine yN ?_
 dsimp only [St.put]
 refine K1 _ ?_
 refine yS fun _ K2 => ?_
 refine yR ?_
 refine yM rfl rfl ?_
 refine aa rfl (qa rfl rfl) ?_
 try dsimp only [St.put]
 refine ae rfl (ay rfl rfl rfl (xa xs (fun n => l6 n lo hi) _ _ fun x _ => uj4 x lo hi) ?_)
 refine aa rfl (dd rfl rfl) ?_
 refine yA rfl rfl ?_
 refine yN ?_
 dsimp only [St.put]
 refine K2 _ ?_
 refine ar ?_
 refine az rfl (by constructor) zN zS ?_
 rfl
theorem yd (a b : PlaceD) : Pure Tryz.prog 84 [val a, val b] (.v (.int .i64 (lj a b))) := by
 refine cn Tryz.func84 rfl (fun m => .v) fun G nx => ?_
 simp only [Tryz.ntmps84, List.length_cons, List.length_nil, Nat.reduceAdd, Nat.reduceSub]
 refine bq fun hlt => ?_
 dsimp only at hlt
 refine yS fun _ K1 => ?_
 refine yR ?_
 try dsimp only [St.put]
 refine yB rfl rfl rfl ?_
 try dsimp only [St.put]
 refine yB rfl rfl rfl ?_
 refine yA rfl rfl ?_
 refine yN ?_
 dsimp only [St.put]
 refine K1 _ ?_
 refine yS fun _ K2 => ?_
 refine f9 [(0, none), (1, none), (2, none), (3, none), (5, none), (6, none), (7, none), (8, none), (10, none), (11, none), (12, none), (13, none), (4, none), (9, none), (14, none), (15, none), (16, none), (17, none)] (fun i => [14, 15, 16].contains i) (fun i => [4, 9, 14, 15, 16].contains i) (fun i => [0, 2, 5, 7, 10, 12, 17].contains i) [] (by kernel_rfl) (by kernel_rfl) ?_
 refine ah rfl rfl rfl rfl (ca rfl rfl rfl) ?_
 try dsimp only [St.put]
 refine ax rfl rfl rfl rfl (bv rfl rfl) ?_
 refine ah rfl rfl rfl rfl (ca rfl rfl rfl) ?_
 try dsimp only [St.put]
 refine ax rfl rfl rfl rfl (bv rfl rfl) ?_
 refine ah rfl rfl rfl rfl (ca rfl rfl rfl) ?_
 try dsimp only [St.put]
 refine ax rfl rfl rfl rfl (bv rfl rfl) ?_
 refine ah rfl rfl rfl rfl (ca rfl rfl rfl) ?_
 try dsimp only [St.put]
 refine ax rfl rfl rfl rfl (bv rfl rfl) ?_
 refine ah rfl rfl rfl rfl (ca rfl rfl rfl) ?_
 try dsimp only [St.put]
 refine ax rfl rfl rfl rfl (bv rfl rfl) ?_
 refine ah rfl rfl rfl rfl (ca rfl rfl rfl) ?_
 try dsimp only [St.put]
 refine ax rfl rfl rfl rfl (bv rfl rfl) ?_
 refine ip ?_
 try dsimp only [St.put]
 refine i7 rfl rfl rfl (ay rfl rfl rfl (wx _ _) ⟨zD, ?_⟩)
 try dsimp only [St.put]
 refine i7 rfl rfl rfl (ay rfl rfl rfl (wx _ _) ⟨zD, ?_⟩)
 try dsimp only [St.put]
 refine gl rfl rfl rfl rfl (ay rfl rfl rfl (wx _ _) ?_)
 try dsimp only [St.put]
 refine gl rfl rfl rfl rfl (dm rfl rfl rfl (by decide) (by decide) zR (by decide) ?_)
 try dsimp only [St.put]
 refine gl rfl rfl rfl rfl (ay rfl rfl rfl (ucf [g7 a.ch b.ch, g7 a.ln b.ln, g7 a.wd b.wd]) ?_)
 refine dw rfl rfl rfl rfl (fb rfl (by constructor)) ?_
 refine io ?_
 dsimp only [St.put]
 refine K2 _ ?_
 refine ar ?_
 refine az rfl (by constructor) zN zS ?_
 exact vi (ukf a b)
theorem uj0 (a b : List Int) (ha : a.length ≤ 1000) (hb : b.length ≤ 1000) : Pure Tryz.prog 57 [lst a, lst b] (.v (.int .i64 (xu a b))) := by
 refine cn Tryz.func57 rfl (fun m => .v) fun G nx => ?_
 simp only [Tryz.ntmps57, List.length_cons, List.length_nil, Nat.reduceAdd, Nat.reduceSub]
 refine bq fun hlt => ?_
 dsimp only at hlt
 refine yS fun _ K1 => ?_
 refine yR ?_
 refine yA rfl rfl ?_
 refine yN ?_
 dsimp only [St.put]
 refine K1 _ ?_
 refine yS fun _ K2 => ?_
 refine yR ?_
 refine yM rfl rfl ?_
 refine aa rfl (bg rfl rfl (List.length_map _)) ?_
 refine yM rfl rfl ?_
 refine aa rfl (bg rfl rfl (List.length_map _)) ?_
 refine aa rfl (gn rfl rfl rfl (by omega)) ?_
 refine yM rfl rfl ?_
 refine yM rfl rfl ?_
 try dsimp only [St.put]
 refine ae rfl (ay rfl rfl rfl (ung a b ha hb) ?_)
 try dsimp only [St.put]
 refine ae rfl (dm rfl rfl rfl (by decide) (by decide) zR (by decide) ?_)
 try dsimp only [St.put]
 refine ae rfl (ay rfl rfl rfl (ucf [(a.length : Int) - (b.length : Int), ey a b]) ?_)
 refine yA rfl rfl ?_
 refine yN ?_
 dsimp only [St.put]
 refine K2 _ ?_
 refine ar ?_
 refine az rfl (by constructor) zN zS ?_
 rfl
theorem ujz (t : ai) (q : PlaceD) (ht : dc t = true) : Pure Tryz.prog 83 [gy t, val q] (.v (.bool (fg t q))) := by
 refine cn Tryz.func83 rfl (fun m => .v) fun G nx => ?_
 simp only [Tryz.ntmps83, List.length_cons, List.length_nil, Nat.reduceAdd, Nat.reduceSub]
 refine bq fun hlt => ?_
 dsimp only at hlt
 obtain ⟨hl1, hl2, hl3⟩ := ki ht
 refine yS fun _ K1 => ?_
 refine yR ?_
 try dsimp only [St.put]
 refine yB rfl rfl rfl ?_
 try dsimp only [St.put]
 refine yB rfl rfl rfl ?_
 refine yA rfl rfl ?_
 refine yN ?_
 dsimp only [St.put]
 refine K1 _ ?_
 refine yS fun _ K2 => ?_
 refine cc 5 ?_
 refine zQ ?_
 refine j0 (X := Bool) (fun b => b = !(gq t (q.ch, q.ln)).isSome) (fun b => [(29, .v (.bool b))]) (fun b G' => G') rfl ?_ (fun _ _ _ _ h => .inl h) ?_ ?_
 ·rintro b hI
  exact zL
 ·refine qn [(0, none), (1, none), (2, none), (3, none), (4, none), (5, none)] (fun _ => false) (fun i => [0, 2, 3, 4].contains i) 19 (rl [6, 19]) (by kernel_rfl) (by kernel_rfl) ?_
  refine ah rfl rfl rfl rfl (ca rfl rfl rfl) ?_
  try dsimp only [St.put]
  refine ax rfl rfl rfl rfl (bv rfl rfl) ?_
  refine ah rfl rfl rfl rfl (bg rfl rfl (List.length_map _)) ?_
  refine ah rfl rfl rfl rfl (gn rfl rfl rfl (by omega)) ?_
  refine ah rfl rfl rfl rfl (ca rfl rfl rfl) ?_
  try dsimp only [St.put]
  refine ax rfl rfl rfl rfl (bv rfl rfl) ?_
  refine cg ?_
  refine dq [6] (by kernel_rfl) (by simp) ?_
  refine dp ?_ ?_
  ·try dsimp only [St.put]
   refine ig rfl rfl rfl (dm rfl rfl rfl (by decide) (by decide) zR (by decide) ?_)
   refine dq [7] (by kernel_rfl) (by simp) ?_
   refine dp ?_ ?_
   ·try dsimp only [St.put]
    refine ig rfl rfl rfl (ay rfl rfl rfl (mu _ _ [_]) ?_)
    refine eg [(8, none), (9, none), (10, none), (11, none), (12, none), (13, none), (14, none), (15, none), (16, none), (17, none), (18, none), (19, none), (20, none)] (fun i => [8, 9, 10, 12, 14, 15, 17, 18, 19].contains i) 4 (rl [21, 4]) (by kernel_rfl) ?_
    refine ah rfl rfl rfl rfl (dd rfl rfl) ?_
    refine xM rfl rfl rfl rfl rfl ?_
    refine jn (fun hs => ?_) (fun hs => ?_)
    ·have h8 : inB q.ch 0 ((t.length : Int) - 1) = false := by rw [f8] at hs; simpa using hs
     refine aj rfl rfl rfl ?_
     refine aj rfl rfl rfl ?_
     refine aj rfl rfl rfl ?_
     refine aj rfl rfl rfl ?_
     refine aj rfl rfl rfl ?_
     refine aj rfl rfl rfl ?_
     refine aj rfl rfl rfl ?_
     refine aj rfl rfl rfl ?_
     refine aj rfl rfl rfl ?_
     refine aj rfl rfl rfl ?_
     refine aj rfl rfl rfl ?_
     refine cg ?_
     refine dq [21] (by kernel_rfl) (by simp) ?_
     refine dp ?_ ?_
     ·refine fw rfl rfl rfl ?_
      refine dq [22] (by kernel_rfl) (by simp) ?_
      refine dp ?_ ?_
      ·refine fw rfl rfl rfl ?_
       refine eg [(23, none), (24, none)] (fun i => [23, 24].contains i) 0 (rl [25]) (by kernel_rfl) ?_
       refine aj rfl rfl rfl ?_
       refine ah rfl rfl rfl rfl (br rfl rfl (by constructor)) ?_
       refine cg ?_
       dsimp only [St.put]
       refine g8 (by kernel_rfl) ?_
       refine ⟨_, ?_, ⟨⟨rfl, rfl⟩, zF, zB, zN, zX⟩⟩
       rw [uw]
       (simp [h8]; done)
      exact dn
     exact dn
    have h8 : inB q.ch 0 ((t.length : Int) - 1) = true := by rw [f8] at hs; simpa using hs
    have hn1' := h8
    simp only [inB_true] at hn1'
    obtain ⟨c, hcx⟩ : ∃ c, t[q.ch.toNat]? = some c := cw (by omega)
    have hnl : kp t q.ch = c.lines.length := by simp [kp, hcx]
    have hll := (hl3 c (fq hcx)).2.1
    have hch : q.ch = ((q.ch.toNat : Nat) : Int) := by omega
    refine ah rfl rfl rfl rfl (ca rfl rfl rfl) ?_
    try dsimp only [St.put]
    refine ax rfl rfl rfl rfl (bv rfl rfl) ?_
    refine ah rfl rfl rfl rfl (ca rfl rfl rfl) ?_
    try dsimp only [St.put]
    refine ax rfl rfl rfl rfl (bv rfl rfl) ?_
    try dsimp only [St.put]
    refine ah rfl rfl rfl rfl (bk rfl rfl rfl (by omega) (bj (by assumption)) (Enc.len _)) ?_
    refine ah rfl rfl rfl rfl (ca rfl rfl rfl) ?_
    try dsimp only [St.put]
    refine ax rfl rfl rfl rfl (bv rfl rfl) ?_
    refine ah rfl rfl rfl rfl (bg rfl rfl (List.length_map _)) ?_
    refine ah rfl rfl rfl rfl (gn rfl rfl rfl (by omega)) ?_
    refine ah rfl rfl rfl rfl (ca rfl rfl rfl) ?_
    try dsimp only [St.put]
    refine ax rfl rfl rfl rfl (bv rfl rfl) ?_
    refine cg ?_
    refine dq [21] (by kernel_rfl) (by simp) ?_
    refine dp ?_ ?_
    ·try dsimp only [St.put]
     refine ig rfl rfl rfl (dm rfl rfl rfl (by decide) (by decide) zR (by decide) ?_)
     refine dq [22] (by kernel_rfl) (by simp) ?_
     refine dp ?_ ?_
     ·try dsimp only [St.put]
      refine ig rfl rfl rfl (ay rfl rfl rfl (mu _ _ [_]) ?_)
      refine eg [(23, none), (24, none)] (fun i => [23, 24].contains i) 0 (rl [25]) (by kernel_rfl) ?_
      refine ah rfl rfl rfl rfl (dd rfl rfl) ?_
      refine ah rfl rfl rfl rfl (cb rfl rfl (by constructor)) ?_
      refine cg ?_
      dsimp only [St.put]
      refine g8 (by kernel_rfl) ?_
      refine ⟨_, ?_, ⟨⟨rfl, rfl⟩, zF, zB, zN, zX⟩⟩
      rw [uw]
      (simp [h8, hnl, f8]; done)
     exact dn
    exact dn
   exact dn
  exact dn
 rintro b hst
 dsimp only at hst ⊢
 refine aq rfl (fun hc => ?_) (fun hc => ?_)
 ·have hw : gq t (q.ch, q.ln) = none := by rw [hc] at hst; simpa using hst.symm
  refine yS fun _ K4 => ?_
  refine yR ?_
  refine yA rfl rfl ?_
  refine yN ?_
  dsimp only [St.put]
  refine K4 _ ?_
  refine ar ?_
  refine az rfl (by constructor) zN zS ?_
  exact vb (by unfold fg; rw [hw])
 have hw0 : (gq t (q.ch, q.ln)).isSome = true := by rw [hc] at hst; simpa using hst.symm
 obtain ⟨l, hw⟩ := Option.isSome_iff_exists.1 hw0
 obtain ⟨k, n, c, hkn, hk, hn⟩ := sl hw
 have hch : q.ch = ((k : Nat) : Int) := congrArg Prod.fst hkn
 have hln : q.ln = ((n : Nat) : Int) := congrArg Prod.snd hkn
 have hwl := uu ht hw
 refine av ?_
 refine K2 _ ?_
 refine yS fun _ K5 => ?_
 refine f9 [(0, none), (1, none), (2, none), (3, none), (4, none), (5, none), (6, none), (7, none), (8, none), (9, none), (10, none), (11, none), (12, none), (13, none), (14, none), (15, none), (16, none), (17, none)] (fun i => [16].contains i) (fun i => [15, 16].contains i) (fun i => [0, 2, 4, 5, 7, 9, 11, 12, 13, 17].contains i) [] (by kernel_rfl) (by kernel_rfl) ?_
 refine ah rfl rfl rfl rfl (ca rfl rfl rfl) ?_
 try dsimp only [St.put]
 refine ax rfl rfl rfl rfl (bv rfl rfl) ?_
 refine ah rfl rfl rfl rfl (ca rfl rfl rfl) ?_
 try dsimp only [St.put]
 refine ax rfl rfl rfl rfl (bv rfl rfl) ?_
 try dsimp only [St.put]
 refine ah rfl rfl rfl rfl (bk rfl rfl rfl (by omega) (bj (by assumption)) (Enc.len _)) ?_
 refine ah rfl rfl rfl rfl (ca rfl rfl rfl) ?_
 try dsimp only [St.put]
 refine ax rfl rfl rfl rfl (bv rfl rfl) ?_
 refine ah rfl rfl rfl rfl (ca rfl rfl rfl) ?_
 try dsimp only [St.put]
 refine ax rfl rfl rfl rfl (bv rfl rfl) ?_
 try dsimp only [St.put]
 refine ah rfl rfl rfl rfl (bk rfl rfl rfl (by omega) (bj (by assumption)) (Enc.len _)) ?_
 try dsimp only [St.put]
 refine ax rfl rfl rfl rfl (bv rfl rfl) ?_
 refine ah rfl rfl rfl rfl (bg rfl rfl (List.length_map _)) ?_
 refine ah rfl rfl rfl rfl (gn rfl rfl rfl (by omega)) ?_
 refine ah rfl rfl rfl rfl (ca rfl rfl rfl) ?_
 try dsimp only [St.put]
 refine ax rfl rfl rfl rfl (bv rfl rfl) ?_
 refine ip ?_
 try dsimp only [St.put]
 refine i7 rfl rfl rfl (dm rfl rfl rfl (by decide) (by decide) zR (by decide) ⟨zD, ?_⟩)
 try dsimp only [St.put]
 refine gl rfl rfl rfl rfl (ay rfl rfl rfl (mu _ _ [_]) ?_)
 refine dw rfl rfl rfl rfl (fb rfl (by constructor)) ?_
 refine io ?_
 dsimp only [St.put]
 refine K5 _ ?_
 refine ar ?_
 refine az rfl (by constructor) zN zS ?_
 exact vb (by unfold fg; rw [hw, f8])
theorem uj3 (t : ai) (ht : dc t = true) : Pure Tryz.prog 82 [gy t] (.tup [lst (l3 t t.length), .v (.int .i64 (l7 t : Int))]) := by
 refine cn Tryz.func82 rfl (fun m => .tup (bz (bu _ _) (bz .v c4))) fun G nx => ?_
 simp only [Tryz.ntmps82, List.length_cons, List.length_nil, Nat.reduceAdd, Nat.reduceSub]
 refine bq fun hlt => ?_
 dsimp only at hlt
 obtain ⟨hl1, hl2, hl3⟩ := ki ht
 refine yS fun _ K1 => ?_
 refine yR ?_
 try dsimp only [St.put]
 refine yB rfl rfl rfl ?_
 refine yA rfl rfl ?_
 refine yA rfl rfl ?_
 refine yN ?_
 dsimp only [St.put]
 refine K1 _ ?_
 refine yS fun _ K2 => ?_
 refine yR ?_
 refine yA rfl rfl ?_
 refine yN ?_
 dsimp only [St.put]
 refine K2 _ ?_
 refine ng 4 3 1 rfl (by decide) ?_
 dsimp only [List.set_cons_zero, List.set_cons_succ]
 refine yS fun _ K3 => ?_
 refine yR ?_
 refine yA rfl rfl ?_
 refine yN ?_
 dsimp only [St.put]
 refine K3 _ ?_
 refine yS fun _ K4 => ?_
 refine yS fun _ K5 => ?_
 refine yR ?_
 refine yF rfl rfl rfl rfl ?_
 refine yL rfl rfl rfl ?_
 refine aa rfl (bg rfl rfl (List.length_map _)) ?_
 refine yM rfl rfl ?_
 refine yN ?_
 dsimp only [St.put]
 refine K5 _ ?_
 refine ba ?_
 refine cc 12 ?_
 refine zQ ?_
 refine cr (ak G nx (.tip 0 3 1)) zX ?_
 dsimp only
 refine cv (X := Nat) (fun k => k ≤ t.length) (fun k => t.length - k) (fun k => [(4, .list ((l3 t k).map cells) (.tip nx)), (5, .v (.int .i64 (fk t k : Int))), (7, .any), (11, .v (.int .i64 (k : Int)))]) (fun k G' => ak G nx (.tip (l3 t k).length 3 1)) 0 rfl ?_ ?_ ?_ ?_ ?_ ?_
 ·exact Nat.zero_le _
 ·exact zF
 ·exact zX
 ·rintro k hI
  exact zL
 ·rintro k hI
  exact zH
 rintro k hI
 dsimp only at hI ⊢
 refine yS fun _ K6 => ?_
 refine yR ?_
 refine aa rfl (ce rfl rfl rfl) ?_
 refine yN ?_
 dsimp only [St.put]
 refine K6 _ ?_
 refine yS fun _ K7 => ?_
 refine aq rfl (fun hc => ?_) (fun hc => ?_)
 ·replace hc := of_decide_eq_true hc
  obtain ⟨c, hcx⟩ : ∃ c, t[k]? = some c := cw (by omega)
  have hll := (hl3 c (fq hcx)).2.1
  have hsl := u7 ht k (by omega)
  have hst : ((fk t (k + 1) : Nat) : Int) = (fk t k : Int) + (c.lines.length : Int) := by rw [su hcx]; omega
  have hln := ua5 t k
  refine av ?_
  refine K7 _ ?_
  refine yS fun _ K8 => ?_
  refine ba ?_
  refine yS fun _ K9 => ?_
  refine yR ?_
  refine aa rfl (bk rfl rfl rfl rfl (bj (by assumption)) (Enc.len _)) ?_
  refine yE rfl rfl rfl ?_
  try dsimp only [St.put]
  refine ae rfl (dt rfl ?_)
  try dsimp only [St.put]
  refine ae rfl (cx rfl rfl rfl zG rfl rfl (by rfl) ?_)
  refine yN ?_
  dsimp only [St.put]
  refine K9 _ ?_
  refine fu (i := 7) rfl zG zC ?_
  dsimp only
  refine yS fun _ K10 => ?_
  refine yR ?_
  refine yM rfl rfl ?_
  refine yM rfl rfl ?_
  try dsimp only [St.put]
  refine ae rfl (dm rfl rfl rfl (by decide) (by decide) zR (by decide) ?_)
  try dsimp only [St.put]
  refine ae rfl (jt ([(fk t k : Int)]) rfl rfl zG zE rfl rfl zA ?_ zA)
  refine yA rfl rfl ?_
  refine yN ?_
  dsimp only [St.put]
  refine K10 _ ?_
  refine yR ?_
  refine yM rfl rfl ?_
  refine yF rfl rfl rfl rfl ?_
  refine yL rfl rfl rfl ?_
  refine aa rfl (bg rfl rfl (List.length_map _)) ?_
  refine aa rfl (bn rfl rfl rfl (by omega)) ?_
  refine yA rfl rfl ?_
  refine yN ?_
  dsimp only [St.put]
  refine K8 _ ?_
  refine yR ?_
  refine aa rfl (bn rfl rfl rfl (by omega)) ?_
  refine yM rfl rfl ?_
  refine yN ?_
  dsimp only [St.put]
  rw [← hst]
  simp only [← uh1]
  exact ⟨k + 1, by omega, by omega, ⟨⟨rfl, rfl⟩, zF, zB, zN, zX⟩⟩
 replace hc := of_decide_eq_false hc
 obtain rfl : k = t.length := by omega
 refine co ?_
 refine K4 _ ?_
 refine yS fun _ K11 => ?_
 refine yR ?_
 refine yM rfl rfl ?_
 refine yM rfl rfl ?_
 refine yA rfl rfl ?_
 refine yA rfl rfl ?_
 refine yN ?_
 dsimp only [St.put]
 refine K11 _ ?_
 refine ar ?_
 refine gu rfl (dx (by constructor)) (dx (by constructor)) zN zS ?_ ?_
 ·exact zW
 exact Wk.of_eq (vi rfl)
end Go.Proofs.YtbbdginipiljdaaGreatDoor
namespace Go.AB
open Go Go.RowKit Go.ChangeShapes Go.WideShapes
open Go.AB.Enc (cells)
open Go.PB (aw ai PlaceD bc bf bd)
/-- What is read along a type is a datum. -/
class OpensE (P : Program) (t : TypeId) (α : Type) [Enc α] : Prop where
 n : P.cellsOf t = Enc.n α
 op : ∀ {H : Type} {enc : TypeId × Value → H} {w : World} {base : Nat} {spare : Nat → Bool} {held : Bool} {fuel : Nat} {cs : List Value} {x : DataW H × List MemPlace}, DataW.trod enc P w base spare held fuel t cs = some x → ∃ a : α, Rs (ii w) w (cells a) cs
def ub (P : Program) (t : TypeId) (k : IntKind) : Bool := match P.underlying t with | some (.int k') => k' == k && P.cellsOf t == 1 | _ => false
def xn (P : Program) (t : TypeId) : Bool := match P.underlying t with | some .string => P.cellsOf t == 1 | _ => false
def xr (P : Program) (t e : TypeId) : Bool := match P.underlying t with | some (.slice e') => e' == e && P.cellsOf t == 1 | _ => false
def jf (P : Program) (t : TypeId) (l : List (Nat × TypeId × Nat)) (n : Nat) : Bool := match P.underlying t with
 | some (.struct fs) => (fs.toList.map fun f => (f.offset, f.type, P.cellsOf f.type)) == l && P.cellsOf t == n
 | _ => false
theorem wfI64 {n : Int} (h : (Lit.int .i64 n).wf = true) : okV (.int .i64 n) = true := by
 simp [Lit.wf, IntKind.min, IntKind.max, IntKind.signed, IntKind.bits] at h
 exact jp ⟨by omega, by omega⟩
theorem wfU8 {n : Int} (h : (Lit.int .u8 n).wf = true) : okV (.int .u8 n) = true := by
 simp [Lit.wf, IntKind.min, IntKind.max, IntKind.signed, IntKind.bits] at h
 exact yi ⟨by omega, by omega⟩
section
variable {P : Program} {t e : TypeId}
theorem y5 {k : IntKind} (h : ub P t k = true) : P.underlying t = some (.int k) ∧ P.cellsOf t = 1 := by
 unfold ub at h
 split at h
 ·rename_i k' he
  simp only [Bool.and_eq_true, beq_iff_eq] at h
  rw [he, h.1]; exact ⟨rfl, h.2⟩
 ·cases h
theorem ua3 (h : xn P t = true) : P.underlying t = some .string ∧ P.cellsOf t = 1 := by
 unfold xn at h
 split at h
 ·rename_i he; exact ⟨he, by simpa using h⟩
 ·cases h
theorem ubc (h : xr P t e = true) : P.underlying t = some (.slice e) ∧ P.cellsOf t = 1 := by
 unfold xr at h
 split at h
 ·rename_i k' he
  simp only [Bool.and_eq_true, beq_iff_eq] at h
  rw [he, h.1]; exact ⟨rfl, h.2⟩
 ·cases h
theorem Rs.single {E : Env} {w : World} {c : C} {v : Value} (h : R E w c v) : Rs E w [c] [v] := Rs.cons h Rs.nil
theorem Rs.single_inv {E : Env} {w : World} {c : C} {v : Value} (h : Rs E w [c] [v]) : R E w c v := h.2 0 c v rfl rfl
theorem OpensE.int (h : ub P t .i64 = true) : OpensE P t Int where
 n := (y5 h).2
 op hx := by
  obtain ⟨n, rfl, _, h2⟩ := DataW.trod_int (y5 h).1 hx
  exact ⟨n, Rs.single (.v (wfI64 h2))⟩
theorem OpensE.str (h : xn P t = true) : OpensE P t ByteArray where
 n := (ua3 h).2
 op hx := by
  obtain ⟨s, rfl, _, h2⟩ := DataW.trod_string (ua3 h).1 hx
  exact ⟨s, Rs.single (.v (okV_str.2 (by simpa [maxLen] using h2)))⟩
theorem uh2 {w : World} {a : Addr} {v : Value} (h : w.cell? a = some v) : a.spot = none := by
 unfold World.cell? at h
 split at h
 ·split at h
  ·cases h
  ·rename_i hs
   cases hsp : a.spot with
   | none => rfl
   | some s => simp [hsp] at hs
 ·cases h
theorem udf {α : Type} {p : Nat → α → Prop} : ∀ (n : Nat), (∀ i, i < n → ∃ x, p i x) → ∃ xs : List α, xs.length = n ∧ ∀ i x, xs[i]? = some x → p i x
 | 0, _ => ⟨[], rfl, fun i x h => by simp at h⟩
 | n + 1, h => by
  obtain ⟨xs, h1, h2⟩ := udf n fun i hi => h i (by omega)
  obtain ⟨y, hy⟩ := h n (by omega)
  refine ⟨xs ++ [y], by simp [h1], fun i x hx => ?_⟩
  by_cases hi : i < xs.length
  ·rw [List.getElem?_append_left hi] at hx; exact h2 i x hx
  ·rw [List.getElem?_append_right (by omega)] at hx
   have hz : i - xs.length = 0 := by
    have := (List.getElem?_eq_some_iff.1 hx).1
    simp at this; omega
   rw [hz] at hx
   simp at hx
   subst hx
   rw [show i = n by omega]; exact hy
theorem ubq {α : Type} [Enc α] {E : Env} {w : World} {b : Nat} : ∀ (xs : List α) (off : Nat), (∀ i x, xs[i]? = some x → ∃ es, Rs E w (cells x) es ∧ ∀ j e, es[j]? = some e → w.cell? ⟨b, off + i * Enc.n α + j, none⟩ = some e) →
  ∃ us, Rs E w (xs.map cells).flatten us ∧ ∀ j u, us[j]? = some u → w.cell? ⟨b, off + j, none⟩ = some u
 | [], off, _ => ⟨[], Rs.nil, by simp⟩
 | x :: xs, off, h => by
  obtain ⟨es, h1, h2⟩ := h 0 x rfl
  obtain ⟨us, h3, h4⟩ := ubq xs (off + Enc.n α) fun i y hy => by
   obtain ⟨fs, k1, k2⟩ := h (i + 1) y (by simpa using hy)
   exact ⟨fs, k1, fun j e he => by rw [← k2 j e he]; congr 2; rw [Nat.add_mul]; omega⟩
  have hl : es.length = Enc.n α := by rw [h1.1]; exact Enc.len x
  refine ⟨es ++ us, by rw [List.map_cons, List.flatten_cons]; exact h1.append h3, fun j u hu => ?_⟩
  by_cases hj : j < es.length
  ·rw [List.getElem?_append_left hj] at hu
   rw [← h2 j u hu]; congr 2; omega
  ·rw [List.getElem?_append_right (by omega)] at hu
   rw [← h4 _ u hu]; congr 2; omega
theorem OpensE.slice {α : Type} [Enc α] [o : OpensE P e α] (h : xr P t e = true) (hpos : 1 ≤ Enc.n α) : OpensE P t (List α) where
 n := (ubc h).2
 op {H enc w base spare held fuel cs x} hx := by
  rcases Deep.open_slice (ubc h).1 hx with ⟨rfl, _⟩ | ⟨a, len, cap, m, n, D, Pl, rfl, hb, hl, hm, hmm, _, hel⟩
  ·refine ⟨[], Rs.single ?_⟩
   exact R.mk_list (rows := []) (sz := 1) (us := []) (Nat.le_refl _) (Nat.zero_le _) (Nat.le_refl _) (by simp) (by simp) Rs.nil (.inl rfl) (by simp) (by simp) (by simp)
  ·have hlm : len ≤ m := by rw [hmm]; split <;> omega
   have hs : 0 < len → a.spot = none := fun h0 => by
    obtain ⟨cs', hc, ht⟩ := hel 0 (by omega)
    obtain ⟨_, hlen, hcell⟩ := World.cells?_some hc
    rw [o.n] at hlen hcell
    have := hcell 0 (by omega)
    rw [List.getElem?_eq_getElem (by omega)] at this
    have := uh2 this
    simpa [Addr.add] using this
   obtain ⟨xs, h1, h2⟩ := udf (p := fun i (y : α) => ∃ es, Rs (ii w) w (cells y) es ∧ ∀ j e, es[j]? = some e → w.cell? ⟨a.block, a.off + i * Enc.n α + j, none⟩ = some e) len fun i hi => by
    obtain ⟨cs', hc, ht⟩ := hel i (by omega)
    obtain ⟨y, hy⟩ := o.op ht
    obtain ⟨_, hlen, hcell⟩ := World.cells?_some hc
    rw [o.n] at hlen hcell hc
    have hs' := hs (by omega)
    refine ⟨y, cs', hy, fun j u hj => ?_⟩
    have hj' : j < Enc.n α := by rw [← hlen]; exact (List.getElem?_eq_some_iff.1 hj).1
    have := hcell j hj'
    rw [hj] at this
    rw [← this]
    obtain ⟨ab, ao, asp⟩ := a
    dsimp only at hs'
    subst hs'
    rw [qq, qq]
   subst h1
   refine ⟨xs, Rs.single ?_⟩
   obtain ⟨us, k1, k2⟩ := ubq (E := ii w) (w := w) (b := a.block) xs a.off h2
   have := R.mk_list (E := ii w) (w := w) (rows := xs.map cells) (a := some a) (cap := cap) (sz := Enc.n α) (us := us) (tok := .none) (by simpa using hl) hm hpos (ll xs) (fun r hr c hc => by
    obtain ⟨x, _, rfl⟩ := List.mem_map.1 hr
    exact Enc.one x c hc) k1 (by
    by_cases hxs : xs = []
    ·subst hxs; exact .inl rfl
    ·right
     have hs' := hs (List.length_pos_iff.2 hxs)
     obtain ⟨ab, ao, asp⟩ := a
     dsimp only at hs'
     subst hs'
     refine ⟨ab, ao, rfl, ?_, k2⟩
     have h0 : 0 < us.length := by
      rw [k1.1, na (ll xs), List.length_map]
      exact Nat.mul_pos (List.length_pos_iff.2 hxs) hpos
     have := zx (k2 (us.length - 1) _ (List.getElem?_eq_getElem (by omega)))
     dsimp only at this
     show ao + us.length ≤ oo w ab
     omega) (by simp) (by simp) (by simp)
   rw [List.length_map] at this
   exact this
theorem ua4 {l : List (Nat × TypeId × Nat)} {n : Nat} (h : jf P t l n = true) {H : Type} {enc : TypeId × Value → H} {w : World} {base : Nat} {spare : Nat → Bool} {held : Bool} {fuel : Nat} {cs : List Value} {x : DataW H × List MemPlace}
  (hx : DataW.trod enc P w base spare held fuel t cs = some x) : cs.length = n ∧ ∀ p ∈ l, ∃ m y, DataW.trod enc P w base spare held m p.2.1 ((cs.drop p.1).take p.2.2) = some y := by
 unfold jf at h
 split at h
 ·rename_i fs he
  simp only [Bool.and_eq_true, beq_iff_eq] at h
  obtain ⟨xs, m, _, _, hl, hlen, hf⟩ := DataW.trod_struct he hx
  refine ⟨by rw [hl, h.2], fun p hp => ?_⟩
  rw [← h.1] at hp
  obtain ⟨f, hfm, rfl⟩ := List.mem_map.1 hp
  obtain ⟨i, hi⟩ := List.getElem?_of_mem hfm
  have hi' : fs[i]? = some f := by simpa using hi
  have hlt : i < xs.length := by rw [hlen]; exact (Array.getElem?_eq_some_iff.1 hi').1
  exact ⟨m, xs[i], by rw [← List.getElem?_eq_getElem hlt]; exact hf i f hi'⟩
 ·cases h
theorem u6 {l : List (Nat × TypeId × Nat)} {n : Nat} (h : jf P t l n = true) : P.cellsOf t = n ∧ ∃ fs, P.underlying t = some (.struct fs) := by
 unfold jf at h
 split at h
 ·rename_i fs he
  simp only [Bool.and_eq_true, beq_iff_eq] at h
  exact ⟨h.2, fs, he⟩
 ·cases h
/-- A struct of one field. -/
theorem OpensE.one {α : Type} [Enc α] [o : OpensE P e α] (h : jf P t [(0, e, Enc.n α)] (Enc.n α) = true) : OpensE P t α where
 n := (u6 h).1
 op {H enc w base spare held fuel cs x} hx := by
  obtain ⟨hl, hp⟩ := ua4 h hx
  obtain ⟨m, y, hy⟩ := hp _ (List.mem_cons_self ..)
  obtain ⟨a, ha⟩ := o.op hy
  dsimp only at ha
  rw [List.drop_zero, List.take_of_length_le (by omega)] at ha
  exact ⟨a, ha⟩
/-- A struct, field by field. -/
theorem OpensE.struct {α : Type} [Enc α] {l : List (Nat × TypeId × Nat)} (h : jf P t l (Enc.n α) = true)
  (b : ∀ (w : World) (cs : List Value), cs.length = Enc.n α → (∀ p ∈ l, ∀ (β : Type) (_ : Enc β), OpensE P p.2.1 β → ∃ a : β, Rs (ii w) w (cells a) ((cs.drop p.1).take p.2.2)) → ∃ a : α, Rs (ii w) w (cells a) cs) : OpensE P t α where
 n := (u6 h).1
 op {H enc w base spare held fuel cs x} hx := by
  obtain ⟨hl, hp⟩ := ua4 h hx
  exact b w cs hl fun p hpl β _ o => let ⟨_, _, hy⟩ := hp p hpl; o.op hy
theorem OpensE.chap {tI tL : TypeId} [oI : OpensE P tI Int] [oL : OpensE P tL (List (List ByteArray))] (h : jf P t [(0, tI, 1), (1, tL, 1)] 2 = true) : OpensE P t aw :=
 .struct (α := aw) h fun w cs hl hp => by
  obtain ⟨a, ha⟩ := hp (0, tI, 1) (by simp) Int inferInstance oI
  obtain ⟨b, hb⟩ := hp (1, tL, 1) (by simp) (List (List ByteArray)) inferInstance oL
  match cs, hl with
  | [u, v], _ => exact ⟨⟨a, b⟩, Rs.cons (Rs.single_inv ha) hb⟩
theorem OpensE.place {tI : TypeId} [oI : OpensE P tI Int] (h : jf P t [(0, tI, 1), (1, tI, 1), (2, tI, 1)] 3 = true) : OpensE P t PlaceD :=
 .struct (α := PlaceD) h fun w cs hl hp => by
  obtain ⟨a, ha⟩ := hp (0, tI, 1) (by simp) Int inferInstance oI
  obtain ⟨b, hb⟩ := hp (1, tI, 1) (by simp) Int inferInstance oI
  obtain ⟨c, hc⟩ := hp (2, tI, 1) (by simp) Int inferInstance oI
  match cs, hl with
  | [u, v, x], _ => exact ⟨⟨a, b, c⟩, Rs.cons (Rs.single_inv ha) (Rs.cons (Rs.single_inv hb) hc)⟩
/-- An argument that is a struct; a number. -/
theorem OpensE.arg {α : Type} [Enc α] [o : OpensE P t α] {l : List (Nat × TypeId × Nat)} {n : Nat} (h : jf P t l n = true) {H : Type} {enc : TypeId × Value → H} {w : World} {base : Nat} {spare : Nat → Bool} {held : Bool} {r : Reach} {b0 : Nat} {v : Value} {d : DataW H} {ps : List MemPlace}
  (hv : Value.okWide P w r b0 t v) (hd : DataW.Trod enc P w base spare held t v d ps) : ∃ a : α, R (ii w) w (.agg (cells a)) v := by
 obtain ⟨fs, hs⟩ := (u6 h).2
 obtain ⟨cs, rfl, _⟩ := okWide_struct hs hv
 obtain ⟨fuel, hf⟩ := hd
 obtain ⟨a, ha⟩ := o.op hf
 exact ⟨a, by simpa [Value.cells] using Rs.agg ha (Enc.one a)⟩
end
theorem ulz {P : Program} {f : FuncId} {cs : List C} {v fv : Value} {fc : C} (hp : PureF (.fact fv fc) P f cs (.v v)) {w : World} {args : List Value} (hF : R (ii w) w fc fv) (hr : Rs (ii w) w cs args) :
  Calls P f args.toArray w fun e w' => e = .returned v ∧ Below w.heap.size w w' := by
 obtain ⟨E1, v1, g1⟩ := uee (uf2 w) hF
 refine (hp _ _ (nv _ _ _) E1 w args (hr.ev v1) g1).mono ?_
 rintro e w' ⟨r, x, E', G', nx', rfl, hev, hx, _, rfl, _⟩
 exact ⟨by rw [hx.v_inv], by have := hev.below; rw [v1.B] at this; exact this⟩
end Go.AB
namespace Go.AB
open Go Go.RowKit Go.ChangeShapes Go.WideShapes
open Go.AB.Enc (cells)
variable {P : Program} {o : Oper} {st : St}
theorem n_rem {xt yt : TypeId} {x y : Operand} {m n : Int} (ho : o.op = .binOp .rem xt x y yt) (hx : evC st x = .v (.int .i64 m)) (hy : evC st y = .v (.int .i64 n)) (hm : 0 ≤ m ∧ m ≤ 9223372036854775807) (hn : 0 < n) : NStep P o st (.v (.int .i64 (m % n))) :=
 j6 ho hx hy (jp (by have h1 := Int.emod_nonneg m (b := n) (by omega); have h2 := Int.mul_ediv_add_emod m n; have h3 := Int.mul_nonneg (Int.le_of_lt hn) (Int.ediv_nonneg hm.1 (Int.le_of_lt hn)); omega)) fun w => by
  have h1 : ¬ n = 0 := by omega
  have h2 : m.tmod n = m % n := Int.tmod_eq_emod_of_nonneg hm.1
  simp [eqGuard, binOp, Op.intDiv, h1, h2]
theorem uk4 {s d : TypeId} {x : Operand} {k : IntKind} {n : Int} (ho : o.op = .convert s d x) (hx : evC st x = .v (.int k n)) (hs : (P.underlying s).isSome = true) (hd : P.underlying d = some (.int .i64)) (hn : -9223372036854775808 ≤ n ∧ n ≤ 9223372036854775807) : NStep P o st (.v (.int .i64 n)) := fun E w a h => by
 have e1 := (hx ▸ h.ev x).v_inv
 refine ⟨_, .v (jp hn), fun w' => ?_⟩
 have hk : P.intKind d = .i64 := by simp [Program.intKind, hd]
 have hw : IntKind.i64.wrap n = n := by rw [IntKind.wrap_i64]; omega
 have := run_convert_int (P := P) w' s d k n hs (by rw [hk]; exact hd)
 rw [hk, hw] at this
 simp [execOp, ho, e1, this]
theorem OpensE.argU8 {t : TypeId} (h : ub P t .u8 = true) {H : Type} {enc : TypeId × Value → H} {w : World} {base : Nat} {spare : Nat → Bool} {held : Bool} {r : Reach} {b0 : Nat} {v : Value} {d : DataW H} {ps : List MemPlace}
  (hv : Value.okWide P w r b0 t v) (hd : DataW.Trod enc P w base spare held t v d ps) : ∃ a : Int, R (ii w) w (.v (.int .u8 a)) v := by
 obtain ⟨i, rfl, _, _, wi⟩ := open_int (y5 h).1 hv hd
 exact ⟨i, .v (wfU8 wi)⟩
theorem ug7 {n : Int} (h : (C.v (.int .u8 n)).fit) : 0 ≤ n ∧ n ≤ 255 := (okV_int.1 (fit_v.1 h) : _)
end Go.AB
namespace Go.AB
open Go Go.RowKit
open Go.AB.Enc (cells)
variable {P : Program} {o : Oper} {st : St}
theorem tn {xt yt : TypeId} {x y : Operand} {m n : Int} (ho : o.op = .binOp .mul xt x y yt) (hx : evC st x = .v (.int .i64 m)) (hy : evC st y = .v (.int .i64 n)) (hb : -9223372036854775808 ≤ m * n ∧ m * n ≤ 9223372036854775807) : NStep P o st (.v (.int .i64 (m * n))) :=
 j6 ho hx hy (jp hb) fun w => by
  have : IntKind.i64.wrap (m * n) = m * n := by rw [IntKind.wrap_i64]; omega
  simp [eqGuard, binOp, Op.intArith, this]
theorem tm {xt yt : TypeId} {x y : Operand} {m n : Int} (ho : o.op = .binOp .quo xt x y yt) (hx : evC st x = .v (.int .i64 m)) (hy : evC st y = .v (.int .i64 n)) (hm : 0 ≤ m ∧ m ≤ 9223372036854775807) (hn : 0 < n) : NStep P o st (.v (.int .i64 (m / n))) := by
 have h3 : 0 ≤ m / n := Int.ediv_nonneg hm.1 (by omega)
 have h4 : m / n ≤ m := Int.ediv_le_self _ hm.1
 exact j6 ho hx hy (jp (by omega)) fun w => by
  have h1 : ¬ n = 0 := by omega
  have h2 : m.tdiv n = m / n := Int.tdiv_eq_ediv_of_nonneg hm.1
  have h5 : IntKind.i64.wrap (m / n) = m / n := by rw [IntKind.wrap_i64]; omega
  simp [eqGuard, binOp, Op.intDiv, h1, h2, h5]
theorem ug8 {n : Nat} (h : n ≤ 62) : (2 : Int) ^ n ≤ 4611686018427387904 := by
 have : 2 ^ n ≤ 2 ^ 62 := Nat.pow_le_pow_right (by omega) h
 have h2 : ((2 ^ n : Nat) : Int) = (2 : Int) ^ n := by norm_cast
 rw [← h2]
 have h3 : (2 : Nat) ^ 62 = 4611686018427387904 := by decide
 omega
/-- one, shifted -/
theorem ucx {xt yt : TypeId} {x y : Operand} {n : Nat} (ho : o.op = .binOp .shl xt x y yt) (hx : evC st x = .v (.int .i64 1)) (hy : evC st y = .v (.int .i64 (n : Int))) (hn : n ≤ 62) : NStep P o st (.v (.int .i64 ((2 ^ n : Nat) : Int))) := by
 have h0 := ug8 hn
 have h2 : ((2 ^ n : Nat) : Int) = (2 : Int) ^ n := by norm_cast
 have h1 : 0 ≤ ((2 ^ n : Nat) : Int) := Int.natCast_nonneg _
 exact j6 ho hx hy (jp (by omega)) fun w => by
  have e1 : ¬ ((n : Int) < 0) := by omega
  have e2 : min (n : Int).toNat IntKind.i64.bits = n := by rw [Int.toNat_natCast]; show min n 64 = n; omega
  have e3 : IntKind.i64.wrap (1 * 2 ^ n) = ((2 ^ n : Nat) : Int) := by rw [Int.one_mul, ← h2, IntKind.wrap_i64]; omega
  simp only [eqGuard, binOp, Op.shift, e1, if_false, e2, e3]
  rfl
/-- a number that is not below 0, shifted back -/
theorem yo {xt yt : TypeId} {x y : Operand} {k : IntKind} {m n : Nat} (ho : o.op = .binOp .shr xt x y yt) (hx : evC st x = .v (.int k (m : Int))) (hy : evC st y = .v (.int .i64 (n : Int))) (hn : n ≤ k.bits) (hm : (m : Int) ≤ hiK k) (hk : loK k ≤ 0) : NStep P o st (.v (.int k ((m / 2 ^ n : Nat) : Int))) := by
 have h4 : m / 2 ^ n ≤ m := Nat.div_le_self _ _
 exact n_int' ho hx hy (okV_int.2 (by obtain ⟨q, hq⟩ : ∃ q, m / 2 ^ n = q := ⟨_, rfl⟩; rw [hq] at h4 ⊢; omega)) fun w => by
  have e1 : ¬ ((n : Int) < 0) := by omega
  have e2 : min (n : Int).toNat k.bits = n := by rw [Int.toNat_natCast]; omega
  have e3 : (m : Int).fdiv (2 ^ n) = ((m / 2 ^ n : Nat) : Int) := by
   have h2 : ((2 ^ n : Nat) : Int) = (2 : Int) ^ n := by norm_cast
   rw [← h2, Int.fdiv_eq_ediv_of_nonneg _ (Int.natCast_nonneg _)]
   norm_cast
  simp only [eqGuard, binOp, Op.shift, e1, if_false, e2, e3]
  rfl
where
 n_int' {op : BinOp} {xt yt : TypeId} {x y : Operand} {k k' : IntKind} {m n : Int} {r : Value} (ho : o.op = .binOp op xt x y yt) (hx : evC st x = .v (.int k m)) (hy : evC st y = .v (.int k' n))
  (h1 : okV r = true) (h : ∀ w, (do eqGuard op xt x y (.int k m) (.int k' n); binOp op xt (.int k m) (.int k' n)).run P w = .ok r w) : NStep P o st (.v r) := fun E w a hs => by
  have e1 := (hx ▸ hs.ev x).v_inv
  have e2 := (hy ▸ hs.ev y).v_inv
  refine ⟨r, .v h1, fun w' => ?_⟩
  have := h w'
  simp only [execOp, ho, e1, e2, Sem.run_bind] at this ⊢
  rw [this]
  rfl
/-- the last bit -/
theorem yq {xt yt : TypeId} {x y : Operand} {k : IntKind} {m : Nat} (ho : o.op = .binOp .and xt x y yt) (hx : evC st x = .v (.int k (m : Int))) (hy : evC st y = .v (.int k 1)) (hm : m < 2 ^ k.bits) (hb : 2 ≤ k.bits) : NStep P o st (.v (.int k ((m % 2 : Nat) : Int))) := by
 have h2 : m % 2 < 2 := Nat.mod_lt _ (by omega)
 exact j6 ho hx hy (okV_int.2 (by cases k <;> simp only [loK, hiK] <;> omega)) fun w => by
  have e1 : (BitVec.ofInt k.bits (m : Int) &&& BitVec.ofInt k.bits 1).toNat = m % 2 := by
   have q1 : (BitVec.ofInt k.bits (m : Int)).toNat = m := by
    rw [show BitVec.ofInt k.bits (m : Int) = BitVec.ofNat k.bits m from BitVec.ofInt_natCast .., BitVec.toNat_ofNat, Nat.mod_eq_of_lt hm]
   have q2 : (BitVec.ofInt k.bits 1).toNat = 1 := by
    rw [show BitVec.ofInt k.bits 1 = BitVec.ofNat k.bits 1 from BitVec.ofInt_natCast k.bits 1, BitVec.toNat_ofNat, Nat.mod_eq_of_lt]
    exact Nat.one_lt_two_pow (by omega)
   rw [BitVec.toNat_and, q1, q2, Nat.and_one_is_mod]
  have e2 : k.wrap ((m % 2 : Nat) : Int) = ((m % 2 : Nat) : Int) := by
   have : m % 2 = 0 ∨ m % 2 = 1 := by omega
   rcases this with h | h <;> rw [h] <;> cases k <;> decide
  simp only [eqGuard, binOp, Op.intBits, e1, e2]
  simp
end Go.AB
namespace Go.AB
open Go Go.RowKit
open Go.AB.Enc (cells)
open Go.PB (aw ai PlaceD bc bf bd bl am af ck bi cy c6)
theorem ua8 {t : ai} (ht : dc t = true) (k : Nat) : fk t k ≤ 60 := by
 obtain ⟨_, h2, h3⟩ := ki ht
 have key : ∀ j, j ≤ t.length → fk t j ≤ j * 10 := by
  intro j
  induction j with
  | zero => intro _; rw [ua7]; exact Nat.zero_le _
  | succ j ih =>
   intro hj
   have hc : t[j]? = some t[j] := List.getElem?_eq_getElem (by omega)
   rw [su hc]
   have := (h3 _ (List.mem_of_getElem? hc)).2.1
   have := ih (by omega)
   omega
 by_cases q : k ≤ t.length
 ·have := key k q; omega
 have h1 := key t.length (Nat.le_refl _)
 have e : fk t k = fk t t.length := by
  unfold fk
  rw [List.take_of_length_le (show t.length ≤ k by omega), List.take_of_length_le (Nat.le_refl _)]
 omega
instance decLtW : ∀ a b : List Int, Decidable (ltW a b)
 | [], _ => isFalse (by simp [ltW])
 | _ :: _, [] => isFalse (by simp [ltW])
 | x :: a, y :: b => by
  have := decLtW a b
  unfold ltW
  exact inferInstance
end Go.AB
namespace Go.Proofs.YtbbdginipiljdaaGreatDoor
set_option maxRecDepth 10000
open Go.RowKit Go.AB
open Go.AB.Enc (cells)
open Go.PB (aw ai PlaceD bc bf bd bl am af ck bi cy c6)
theorem pa (n lo hi : Int) : Pure Tryz.prog 71 [.v (.int .i64 n), .v (.int .i64 lo), .v (.int .i64 hi)] (.v (.bool (inB n lo hi))) := by
 refine cn Tryz.func71 rfl (fun m => .v) fun G nx => ?_
 simp only [Tryz.ntmps71, List.length_cons, List.length_nil, Nat.reduceAdd, Nat.reduceSub]
 refine bq fun hlt => ?_
 dsimp only at hlt
 refine yS fun _ K1 => ?_
 refine yR ?_
 refine yA rfl rfl ?_
 refine yN ?_
 dsimp only [St.put]
 refine K1 _ ?_
 refine yS fun _ K2 => ?_
 refine yR ?_
 refine yM rfl rfl ?_
 refine yM rfl rfl ?_
 refine aa rfl (mz rfl rfl rfl) ?_
 refine ef (fun hs => ?_) (fun hs => ?_)
 ·try replace hs := of_decide_eq_true hs
  refine yM rfl rfl ?_
  refine yM rfl rfl ?_
  refine yM rfl rfl ?_
  refine aa rfl (qb rfl rfl rfl) ?_
  refine aa rfl (br rfl rfl (by constructor)) ?_
  refine yA rfl rfl ?_
  refine yN ?_
  dsimp only [St.put]
  refine K2 _ ?_
  refine ar ?_
  refine az rfl (by constructor) zN zS ?_
  exact vb (by simp [inB, hs]; try omega)
 try replace hs := of_decide_eq_false hs
 refine yM rfl rfl ?_
 refine yK rfl ?_
 refine yK rfl ?_
 refine yK rfl ?_
 refine aa rfl (cb rfl rfl (by constructor)) ?_
 refine yA rfl rfl ?_
 refine yN ?_
 dsimp only [St.put]
 refine K2 _ ?_
 refine ar ?_
 refine az rfl (by constructor) zN zS ?_
 exact vb (by simp [inB, hs]; try omega)
theorem ujf (t : ai) (ht : dc t = true) : Pure Tryz.prog 107 [gy t] (.v (.int .i64 (l7 t : Int))) := by
 refine cn Tryz.func107 rfl (fun m => .v) fun G nx => ?_
 simp only [Tryz.ntmps107, List.length_cons, List.length_nil, Nat.reduceAdd, Nat.reduceSub]
 refine bq fun hlt => ?_
 dsimp only at hlt
 obtain ⟨hl1, hl2, hl3⟩ := ki ht
 refine yS fun _ K1 => ?_
 refine yR ?_
 try dsimp only [St.put]
 refine yB rfl rfl rfl ?_
 refine yA rfl rfl ?_
 refine yN ?_
 dsimp only [St.put]
 refine K1 _ ?_
 refine yS fun _ K2 => ?_
 refine yR ?_
 refine yA rfl rfl ?_
 refine yN ?_
 dsimp only [St.put]
 refine K2 _ ?_
 refine yS fun _ K3 => ?_
 refine yS fun _ K4 => ?_
 refine yR ?_
 refine yA rfl rfl ?_
 refine yN ?_
 dsimp only [St.put]
 refine K4 _ ?_
 refine ba ?_
 refine cc 5 ?_
 refine zQ ?_
 refine cr (G) zX ?_
 dsimp only
 refine cv (X := Nat) (fun k => k ≤ t.length) (fun k => t.length - k) (fun k => [(3, .v (.int .i64 ((fk t k : Nat) : Int))), (4, .v (.int .i64 (k : Int)))]) (fun k G' => G') 0 rfl ?_ ?_ (fun _ _ h => h) ?_ ?_ ?_
 ·exact Nat.zero_le _
 ·exact zF
 ·rintro k hI
  exact zL
 ·exact fun _ _ _ _ h => .inl h
 rintro k hI
 dsimp only at hI ⊢
 refine yS fun _ K5 => ?_
 refine yS fun _ K6 => ?_
 refine yR ?_
 refine yM rfl rfl ?_
 refine yF rfl rfl rfl rfl ?_
 refine yL rfl rfl rfl ?_
 refine aa rfl (bg rfl rfl (List.length_map _)) ?_
 refine aa rfl (ce rfl rfl rfl) ?_
 refine yN ?_
 dsimp only [St.put]
 refine K6 _ ?_
 refine aq rfl (fun hc => ?_) (fun hc => ?_)
 ·replace hc := of_decide_eq_true hc
  obtain ⟨c, hk⟩ : ∃ x, t[k]? = some x := cw (by omega)
  have hcl := hl3 c (fq hk)
  have hst := ua8 ht k
  refine av ?_
  refine K5 _ ?_
  refine yS fun _ K7 => ?_
  refine ba ?_
  refine yR ?_
  refine yM rfl rfl ?_
  refine yF rfl rfl rfl rfl ?_
  refine yL rfl rfl rfl ?_
  refine yM rfl rfl ?_
  refine aa rfl (bk rfl rfl rfl rfl (bj (by assumption)) (Enc.len _)) ?_
  refine yF rfl rfl rfl rfl ?_
  refine yL rfl rfl rfl ?_
  refine aa rfl (bg rfl rfl (List.length_map _)) ?_
  refine aa rfl (bn rfl rfl rfl (by omega)) ?_
  refine yA rfl rfl ?_
  refine yN ?_
  dsimp only [St.put]
  refine K7 _ ?_
  refine yR ?_
  refine yM rfl rfl ?_
  refine aa rfl (bn rfl rfl rfl (by omega)) ?_
  refine yA rfl rfl ?_
  refine yN ?_
  dsimp only [St.put]
  have e := su hk
  rw [show ((fk t k : Nat) : Int) + (c.lines.length : Int) = ((fk t (k + 1) : Nat) : Int) by rw [e]; rfl]
  exact ⟨k + 1, by omega, by omega, ⟨⟨rfl, rfl⟩, zF, zB, zN, zX⟩⟩
 replace hc := of_decide_eq_false hc
 obtain rfl : k = t.length := by omega
 refine co ?_
 refine K3 _ ?_
 refine yS fun _ K8 => ?_
 refine yR ?_
 refine yM rfl rfl ?_
 refine yA rfl rfl ?_
 refine yN ?_
 dsimp only [St.put]
 refine K8 _ ?_
 refine ar ?_
 refine az rfl (by constructor) zN zS ?_
 rfl
theorem x8 (t : ai) (q : PlaceD) (ht : dc t = true) (hq : fg t q = true) : Pure Tryz.prog 25 [gy t, val q] (.v (.int .i64 (qe t q))) := by
 refine cn Tryz.func25 rfl (fun m => .v) fun G nx => ?_
 simp only [Tryz.ntmps25, List.length_cons, List.length_nil, Nat.reduceAdd, Nat.reduceSub]
 refine bq fun hlt => ?_
 dsimp only at hlt
 obtain ⟨hl1, hl2, hl3⟩ := ki ht
 obtain ⟨kc, kn, kw, c0, l0, hqe, hkc, hkn, _⟩ := ub6 hq
 have hkcl := (List.getElem?_eq_some_iff.1 hkc).1
 have hknl := (List.getElem?_eq_some_iff.1 hkn).1
 have hc0 := (hl3 c0 (fq hkc)).2.1
 subst hqe
 refine yS fun _ K1 => ?_
 refine yR ?_
 try dsimp only [St.put]
 refine yB rfl rfl rfl ?_
 try dsimp only [St.put]
 refine yB rfl rfl rfl ?_
 refine yA rfl rfl ?_
 refine yN ?_
 dsimp only [St.put]
 refine K1 _ ?_
 refine yS fun _ K2 => ?_
 refine yR ?_
 refine yF rfl rfl rfl rfl ?_
 refine yL rfl rfl rfl ?_
 refine yA rfl rfl ?_
 refine yN ?_
 dsimp only [St.put]
 refine K2 _ ?_
 refine yS fun _ K3 => ?_
 refine yS fun _ K4 => ?_
 refine yR ?_
 refine yA rfl rfl ?_
 refine yN ?_
 dsimp only [St.put]
 refine K4 _ ?_
 refine ba ?_
 refine cc 7 ?_
 refine zQ ?_
 refine cr (G) zX ?_
 dsimp only
 refine cv (X := Nat) (fun k => k ≤ kc) (fun k => kc - k) (fun k => [(5, .v (.int .i64 ((kn : Int) + ((fk t k : Nat) : Int)))), (6, .v (.int .i64 (k : Int)))]) (fun k G' => G') 0 rfl ?_ ?_ (fun _ _ h => h) ?_ ?_ ?_
 ·exact Nat.zero_le _
 ·exact zF
 ·rintro k hI
  exact zL
 ·exact fun _ _ _ _ h => .inl h
 rintro k hI
 dsimp only at hI ⊢
 refine yS fun _ K5 => ?_
 refine yS fun _ K6 => ?_
 refine yR ?_
 refine yM rfl rfl ?_
 refine yF rfl rfl rfl rfl ?_
 refine yL rfl rfl rfl ?_
 refine aa rfl (ce rfl rfl rfl) ?_
 refine yN ?_
 dsimp only [St.put]
 refine K6 _ ?_
 refine aq rfl (fun hc => ?_) (fun hc => ?_)
 ·replace hc := of_decide_eq_true hc
  obtain ⟨c, hk⟩ : ∃ x, t[k]? = some x := cw (by omega)
  have hcl := hl3 c (fq hk)
  have hst := ua8 ht k
  refine av ?_
  refine K5 _ ?_
  refine yS fun _ K7 => ?_
  refine ba ?_
  refine yR ?_
  refine yM rfl rfl ?_
  refine yF rfl rfl rfl rfl ?_
  refine yL rfl rfl rfl ?_
  refine yM rfl rfl ?_
  refine aa rfl (bk rfl rfl rfl rfl (bj (by assumption)) (Enc.len _)) ?_
  refine yF rfl rfl rfl rfl ?_
  refine yL rfl rfl rfl ?_
  refine aa rfl (bg rfl rfl (List.length_map _)) ?_
  refine aa rfl (bn rfl rfl rfl (by omega)) ?_
  refine yA rfl rfl ?_
  refine yN ?_
  dsimp only [St.put]
  refine K7 _ ?_
  refine yR ?_
  refine yM rfl rfl ?_
  refine aa rfl (bn rfl rfl rfl (by omega)) ?_
  refine yA rfl rfl ?_
  refine yN ?_
  dsimp only [St.put]
  have e := su hk
  rw [show (kn : Int) + ((fk t k : Nat) : Int) + (c.lines.length : Int) = (kn : Int) + ((fk t (k + 1) : Nat) : Int) by rw [e, Int.natCast_add]; omega]
  exact ⟨k + 1, by omega, by omega, ⟨⟨rfl, rfl⟩, zF, zB, zN, zX⟩⟩
 replace hc := of_decide_eq_false hc
 obtain rfl : k = kc := by omega
 refine co ?_
 refine K3 _ ?_
 refine yS fun _ K8 => ?_
 refine yR ?_
 refine yM rfl rfl ?_
 refine yA rfl rfl ?_
 refine yN ?_
 dsimp only [St.put]
 refine K8 _ ?_
 refine ar ?_
 refine az rfl (by constructor) zN zS ?_
 exact vi (by unfold qe; rw [Int.toNat_natCast])
theorem uby (l : List PlaceD) (q : PlaceD) (hl : l.length ≤ 1000) : Pure Tryz.prog 95 [lst l, val q] (.v (.bool (decide (q ∈ l)))) := by
 refine cn Tryz.func95 rfl (fun m => .v) fun G nx => ?_
 simp only [Tryz.ntmps95, List.length_cons, List.length_nil, Nat.reduceAdd, Nat.reduceSub]
 refine bq fun hlt => ?_
 dsimp only at hlt
 refine yS fun _ K1 => ?_
 refine yR ?_
 try dsimp only [St.put]
 refine yB rfl rfl rfl ?_
 refine yA rfl rfl ?_
 refine yN ?_
 dsimp only [St.put]
 refine K1 _ ?_
 refine yS fun _ K2 => ?_
 refine yS fun _ K3 => ?_
 refine yR ?_
 refine yA rfl rfl ?_
 refine yN ?_
 dsimp only [St.put]
 refine K3 _ ?_
 refine ba ?_
 refine cc 6 ?_
 refine zQ ?_
 refine cr (G) zX ?_
 dsimp only
 refine cv (X := Nat) (fun k => k ≤ l.length ∧ ∀ y ∈ l.take k, y ≠ q) (fun k => l.length - k) (fun k => [(5, .v (.int .i64 (k : Int)))]) (fun k G' => G') 0 rfl ?_ ?_ (fun _ _ h => h) ?_ ?_ ?_
 ·exact ⟨Nat.zero_le _, by simp⟩
 ·exact zF
 ·rintro k hI
  exact zL
 ·exact fun _ _ _ _ h => .inl h
 rintro k hI
 dsimp only at hI ⊢
 refine yS fun _ K4 => ?_
 refine yS fun _ K5 => ?_
 refine yR ?_
 refine yM rfl rfl ?_
 refine yM rfl rfl ?_
 refine aa rfl (bg rfl rfl (List.length_map _)) ?_
 refine aa rfl (ce rfl rfl rfl) ?_
 refine yN ?_
 dsimp only [St.put]
 refine K5 _ ?_
 refine aq rfl (fun hc => ?_) (fun hc => ?_)
 ·replace hc := of_decide_eq_true hc
  obtain ⟨y, hy⟩ : ∃ y, l[k]? = some y := cw (by omega)
  refine av ?_
  refine K4 _ ?_
  refine yS fun _ K6 => ?_
  refine ba ?_
  refine yS fun _ K7 => ?_
  refine f9 [(0, none), (1, none), (2, none), (3, none), (4, none), (5, none)] (fun i => [].contains i) (fun i => [].contains i) (fun i => [0, 1, 2, 5].contains i) [] (by kernel_rfl) (by kernel_rfl) ?_
  refine xM rfl rfl rfl rfl rfl ?_
  refine xM rfl rfl rfl rfl rfl ?_
  try dsimp only [St.put]
  refine ah rfl rfl rfl rfl (bk rfl rfl rfl rfl (bj (by assumption)) (Enc.len _)) ?_
  try dsimp only [St.put]
  refine ax rfl rfl rfl rfl (d8 rfl rfl (Enc.len _)) ?_
  try dsimp only [St.put]
  refine ax rfl rfl rfl rfl (d8 rfl rfl (Enc.len _)) ?_
  refine ah rfl rfl rfl rfl (ku (x := y) (y := q) rfl rfl rfl) ?_
  refine cg ?_
  dsimp only [St.put]
  refine K7 _ ?_
  refine aq rfl (fun hc => ?_) (fun hc => ?_)
  ·have he : y = q := of_decide_eq_true hc
   refine yS fun _ K8 => ?_
   refine yR ?_
   refine yA rfl rfl ?_
   refine yN ?_
   dsimp only [St.put]
   refine K8 _ ?_
   refine ar ?_
   refine az rfl (by constructor) zN zS ?_
   exact vb (decide_eq_true (he ▸ fq hy)).symm
  have hne : y ≠ q := of_decide_eq_false hc
  refine av ?_
  refine K6 _ ?_
  refine yR ?_
  refine yM rfl rfl ?_
  refine aa rfl (bn rfl rfl rfl (by omega)) ?_
  refine yA rfl rfl ?_
  refine yN ?_
  dsimp only [St.put]
  exact ⟨k + 1, by omega, ⟨by omega, yv (p := fun y => y ≠ q) hy hne hI.2⟩, ⟨⟨rfl, rfl⟩, zF, zB, zN, zX⟩⟩
 replace hc := of_decide_eq_false hc
 refine co ?_
 refine K2 _ ?_
 refine yS fun _ K9 => ?_
 refine yR ?_
 refine yA rfl rfl ?_
 refine yN ?_
 dsimp only [St.put]
 refine K9 _ ?_
 refine ar ?_
 refine az rfl (by constructor) zN zS ?_
 exact vb (by
  have := hI.2
  rw [ga (show l.length ≤ k by omega)] at this
  exact (decide_eq_false fun h => this q h rfl).symm)
theorem ub1 (a b : List Int) (ha : a.length ≤ 1000) : Pure Tryz.prog 19 [lst a, lst b] (.v (.bool (decide (a = b)))) := by
 refine cn Tryz.func19 rfl (fun m => .v) fun G nx => ?_
 simp only [Tryz.ntmps19, List.length_cons, List.length_nil, Nat.reduceAdd, Nat.reduceSub]
 refine bq fun hlt => ?_
 dsimp only at hlt
 refine ld 1 (fun hfb => ?_)
 have hb := (fit_lst.1 hfb).1
 refine yS fun _ K1 => ?_
 refine yR ?_
 refine yA rfl rfl ?_
 refine yN ?_
 dsimp only [St.put]
 refine K1 _ ?_
 refine yS fun _ K2 => ?_
 refine yS fun _ K3 => ?_
 refine yR ?_
 refine yM rfl rfl ?_
 refine aa rfl (bg rfl rfl (List.length_map _)) ?_
 refine yM rfl rfl ?_
 refine aa rfl (bg rfl rfl (List.length_map _)) ?_
 refine aa rfl (eh rfl rfl rfl) ?_
 refine yN ?_
 dsimp only [St.put]
 refine K3 _ ?_
 refine aq rfl (fun hc => ?_) (fun hc => ?_)
 ·try replace hc := of_decide_eq_true hc
  refine yS fun _ K4 => ?_
  refine yR ?_
  refine yA rfl rfl ?_
  refine yN ?_
  dsimp only [St.put]
  refine K4 _ ?_
  refine ar ?_
  refine az rfl (by constructor) zN zS ?_
  exact vb (by
   have : a ≠ b := fun e => by subst e; simp at hc
   simp [this])
 have hl : a.length = b.length := by
  have := g3 hc
  omega
 refine av ?_
 refine K2 _ ?_
 refine yS fun _ K5 => ?_
 refine yS fun _ K6 => ?_
 refine yR ?_
 refine yA rfl rfl ?_
 refine yN ?_
 dsimp only [St.put]
 refine K6 _ ?_
 refine ba ?_
 refine cc 6 ?_
 refine zQ ?_
 refine cr (G) zX ?_
 dsimp only
 refine cv (X := Nat) (fun k => k ≤ a.length ∧ a.take k = b.take k) (fun k => a.length - k) (fun k => [(5, .v (.int .i64 (k : Int)))]) (fun k G' => G') 0 rfl ?_ ?_ (fun _ _ h => h) ?_ ?_ ?_
 ·exact ⟨Nat.zero_le _, by simp⟩
 ·exact zF
 ·rintro k hI
  exact zL
 ·exact fun _ _ _ _ h => .inl h
 rintro k hI
 dsimp only at hI ⊢
 refine yS fun _ K7 => ?_
 refine yS fun _ K8 => ?_
 refine yR ?_
 refine yM rfl rfl ?_
 refine yM rfl rfl ?_
 refine aa rfl (bg rfl rfl (List.length_map _)) ?_
 refine aa rfl (ce rfl rfl rfl) ?_
 refine yN ?_
 dsimp only [St.put]
 refine K8 _ ?_
 refine aq rfl (fun hc => ?_) (fun hc => ?_)
 ·replace hc := of_decide_eq_true hc
  obtain ⟨x, hx⟩ : ∃ x, a[k]? = some x := cw (by omega)
  obtain ⟨y, hy⟩ : ∃ y, b[k]? = some y := cw (by omega)
  refine av ?_
  refine K7 _ ?_
  refine yS fun _ K9 => ?_
  refine ba ?_
  refine yS fun _ K10 => ?_
  refine f9 [(0, none), (1, none), (2, none), (3, none), (4, none), (5, none), (6, none), (7, none), (8, none)] (fun i => [].contains i) (fun i => [].contains i) (fun i => [0, 1, 2, 4, 5, 6, 8].contains i) [] (by kernel_rfl) (by kernel_rfl) ?_
  refine xM rfl rfl rfl rfl rfl ?_
  refine xM rfl rfl rfl rfl rfl ?_
  try dsimp only [St.put]
  refine ah rfl rfl rfl rfl (bk rfl rfl rfl rfl (bj (by assumption)) (Enc.len _)) ?_
  try dsimp only [St.put]
  refine ax rfl rfl rfl rfl (bv rfl rfl) ?_
  refine xM rfl rfl rfl rfl rfl ?_
  refine xM rfl rfl rfl rfl rfl ?_
  try dsimp only [St.put]
  refine ah rfl rfl rfl rfl (bk rfl rfl rfl rfl (bj (by assumption)) (Enc.len _)) ?_
  try dsimp only [St.put]
  refine ax rfl rfl rfl rfl (bv rfl rfl) ?_
  refine ah rfl rfl rfl rfl (eh rfl rfl rfl) ?_
  refine cg ?_
  dsimp only [St.put]
  refine K10 _ ?_
  refine aq rfl (fun hc => ?_) (fun hc => ?_)
  ·have hxy := ji hc
   refine yS fun _ K11 => ?_
   refine yR ?_
   refine yA rfl rfl ?_
   refine yN ?_
   dsimp only [St.put]
   refine K11 _ ?_
   refine ar ?_
   refine az rfl (by constructor) zN zS ?_
   exact vb (by simp [ucv hx hy hxy])
  have hxy := g3 hc
  refine av ?_
  refine K9 _ ?_
  refine yR ?_
  refine yM rfl rfl ?_
  refine aa rfl (bn rfl rfl rfl (by omega)) ?_
  refine yA rfl rfl ?_
  refine yN ?_
  dsimp only [St.put]
  exact ⟨k + 1, by omega, ⟨by omega, uax hI.2 hx (hxy ▸ hy)⟩, ⟨⟨rfl, rfl⟩, zF, zB, zN, zX⟩⟩
 replace hc := of_decide_eq_false hc
 refine co ?_
 refine K5 _ ?_
 refine yS fun _ K12 => ?_
 refine yR ?_
 refine yA rfl rfl ?_
 refine yN ?_
 dsimp only [St.put]
 refine K12 _ ?_
 refine ar ?_
 refine az rfl (by constructor) zN zS ?_
 exact vb (by
  have h1 := hI.2
  rw [ga (by omega), ga (by omega)] at h1
  simp [h1])
end Go.Proofs.YtbbdginipiljdaaGreatDoor
namespace Go.AB
open Go Go.RowKit
open Go.AB.Enc (cells)
open Go.PB (aw ai PlaceD bc bf bd bl am af ck bi cy c6)
theorem uar {t : ai} {x : am} {i : Nat} {q : PlaceD} (h : (da t)[i]? = some q) : fm t x ((da t).take (i + 1)) = fm t x ((da t).take i) + bif fe t x q then 1 else 0 := by
 unfold fm
 rw [List.take_add_one, h, Option.toList_some, List.filter_append, List.length_append]
 cases hf : fe t x q <;> simp [hf]
def jb (x : am) (b : Bool) (q : PlaceD) : Bool := bif b then decide (q ∈ x.found) && decide (q ∈ x.well) else decide (q ∈ x.found) || decide (q ∈ x.well)
/-- what is found, among the first places -/
def m9 (t : ai) (x : am) (b : Bool) (i : Nat) : List PlaceD := ((da t).take i).filter (jb x b)
theorem ud2 {t : ai} {x : am} {b : Bool} {i : Nat} {q : PlaceD} (h : (da t)[i]? = some q) : m9 t x b (i + 1) = m9 t x b i ++ bif jb x b q then [q] else [] := by
 unfold m9
 rw [List.take_add_one, h, Option.toList_some, List.filter_append]
 cases hf : jb x b q <;> simp [hf]
theorem umk (t : ai) (x : am) (b : Bool) : m9 t x b (da t).length = bif b then dv t x else dg t x := by
 unfold m9
 rw [List.take_length]
 cases b <;> rfl
theorem umj (t : ai) (x : am) (b : Bool) (i : Nat) : (m9 t x b i).length ≤ (da t).length := by
 unfold m9
 have := List.length_filter_le (jb x b) ((da t).take i)
 rw [List.length_take] at this
 omega
theorem bit_eq {s k : Nat} : (((s / 2 ^ k % 2 : Nat) : Int) = 1) ↔ s.testBit k = true := by
 rw [Nat.testBit_eq_decide_div_mod_eq, decide_eq_true_eq]
 omega
end Go.AB
namespace Go.Proofs.YtbbdginipiljdaaGreatDoor
set_option maxRecDepth 10000
open Go.RowKit Go.AB
open Go.AB.Enc (cells)
open Go.PB (aw ai PlaceD bc bf bd bl am af ck bi cy c6)
theorem uje (p : af) (j : Nat) (x : am) (ht : dc p.text = true) (hx : p.pages[j]? = some x) : Pure Tryz.prog 73 [val p, .v (.int .i64 (j : Int))] (.v (.int .i64 (el p.text x : Int))) := by
 refine cn Tryz.func73 rfl (fun m => .v) fun G nx => ?_
 simp only [Tryz.ntmps73, List.length_cons, List.length_nil, Nat.reduceAdd, Nat.reduceSub]
 refine bq fun hlt => ?_
 dsimp only at hlt
 have hal := lg ht
 have hjl := (List.getElem?_eq_some_iff.1 hx).1
 refine yS fun _ K1 => ?_
 refine yR ?_
 try dsimp only [St.put]
 refine yB rfl rfl rfl ?_
 refine yA rfl rfl ?_
 refine yN ?_
 dsimp only [St.put]
 refine K1 _ ?_
 refine yS fun _ K2 => ?_
 refine yR ?_
 refine yA rfl rfl ?_
 refine yN ?_
 dsimp only [St.put]
 refine K2 _ ?_
 refine yS fun _ K3 => ?_
 refine yR ?_
 refine yF rfl rfl rfl rfl ?_
 try dsimp only [St.put]
 refine bw rfl (c := gy p.text) (i3 (cs := cells p) rfl rfl (show 1 ≤ 4 by decide)) ?_
 try dsimp only [St.put]
 refine ae rfl (ay rfl rfl rfl (ubv p.text ht) ?_)
 refine yA rfl rfl ?_
 refine yN ?_
 dsimp only [St.put]
 refine K3 _ ?_
 refine yS fun _ K4 => ?_
 refine yS fun _ K5 => ?_
 refine yR ?_
 refine yA rfl rfl ?_
 refine yN ?_
 dsimp only [St.put]
 refine K5 _ ?_
 refine ba ?_
 refine cc 8 ?_
 refine zQ ?_
 refine cr (G) zX ?_
 dsimp only
 refine cv (X := Nat) (fun i => i ≤ (da p.text).length) (fun i => (da p.text).length - i) (fun i => [(5, .v (.int .i64 ((fm p.text x ((da p.text).take i) : Nat) : Int))), (7, .v (.int .i64 (i : Int)))]) (fun i G' => G') 0 rfl ?_ ?_ (fun _ _ h => h) ?_ ?_ ?_
 ·exact Nat.zero_le _
 ·exact zF
 ·rintro i hI
  exact zL
 ·exact fun _ _ _ _ h => .inl h
 rintro i hI
 dsimp only at hI ⊢
 refine yS fun _ K6 => ?_
 refine yS fun _ K7 => ?_
 refine yR ?_
 refine yM rfl rfl ?_
 refine yM rfl rfl ?_
 refine aa rfl (bg rfl rfl (List.length_map _)) ?_
 refine aa rfl (ce rfl rfl rfl) ?_
 refine yN ?_
 dsimp only [St.put]
 refine K7 _ ?_
 refine aq rfl (fun hc => ?_) (fun hc => ?_)
 ·replace hc := of_decide_eq_true hc
  obtain ⟨q, hq⟩ : ∃ q, (da p.text)[i]? = some q := cw (by omega)
  have hqp := allQ_mem.1 (List.mem_of_getElem? hq)
  have hwl : fm p.text x ((da p.text).take i) ≤ (da p.text).length := by
   unfold fm
   have := List.length_filter_le (fe p.text x) ((da p.text).take i)
   rw [List.length_take] at this
   omega
  refine av ?_
  refine K6 _ ?_
  refine yS fun _ K8 => ?_
  refine ba ?_
  refine yS fun _ K9 => ?_
  refine f9 [(0, none), (1, none), (2, none), (3, none), (4, none), (5, none), (7, none), (8, none), (9, none), (10, none), (11, none), (12, none), (13, none), (14, none), (15, none), (16, none), (17, none), (18, none), (6, none), (19, none)] (fun i => [19].contains i) (fun i => [6, 19].contains i) (fun i => [0, 2, 3, 4, 7, 9, 10, 11, 13, 15, 16, 17].contains i) [] (by kernel_rfl) (by kernel_rfl) ?_
  refine ah rfl rfl rfl rfl (ca rfl rfl rfl) ?_
  try dsimp only [St.put]
  refine ax rfl rfl rfl rfl (c := gy p.text) (i3 (cs := cells p) rfl rfl (show 1 ≤ 4 by decide)) ?_
  refine xM rfl rfl rfl rfl rfl ?_
  refine xM rfl rfl rfl rfl rfl ?_
  try dsimp only [St.put]
  refine ah rfl rfl rfl rfl (bk rfl rfl rfl rfl (bj (by assumption)) (Enc.len _)) ?_
  try dsimp only [St.put]
  refine ax rfl rfl rfl rfl (d8 rfl rfl (Enc.len _)) ?_
  refine ah rfl rfl rfl rfl (ca rfl rfl rfl) ?_
  try dsimp only [St.put]
  refine ax rfl rfl rfl rfl (bv rfl rfl) ?_
  refine xM rfl rfl rfl rfl rfl ?_
  try dsimp only [St.put]
  refine ah rfl rfl rfl rfl (bk rfl rfl rfl rfl (bj (by assumption)) (Enc.len _)) ?_
  refine ah rfl rfl rfl rfl (ca rfl rfl rfl) ?_
  try dsimp only [St.put]
  refine ax rfl rfl rfl rfl (bv rfl rfl) ?_
  refine ah rfl rfl rfl rfl (ca rfl rfl rfl) ?_
  try dsimp only [St.put]
  refine ax rfl rfl rfl rfl (bv rfl rfl) ?_
  refine xM rfl rfl rfl rfl rfl ?_
  try dsimp only [St.put]
  refine ah rfl rfl rfl rfl (bk rfl rfl rfl rfl (bj (by assumption)) (Enc.len _)) ?_
  refine ah rfl rfl rfl rfl (ca rfl rfl rfl) ?_
  try dsimp only [St.put]
  refine ax rfl rfl rfl rfl (bv rfl rfl) ?_
  refine ip ?_
  try dsimp only [St.put]
  refine i7 rfl rfl rfl (ay rfl rfl rfl (x8 p.text q ht hqp) ⟨zD, ?_⟩)
  try dsimp only [St.put]
  refine gl rfl rfl rfl rfl (ay rfl rfl rfl (pa _ _ _) ?_)
  refine io ?_
  dsimp only [St.put]
  refine K9 _ ?_
  refine aq rfl (fun hc => ?_) (fun hc => ?_)
  ·have hb : fe p.text x q = true := hc
   refine yR ?_
   refine yM rfl rfl ?_
   refine aa rfl (bn rfl rfl rfl (by omega)) ?_
   refine yA rfl rfl ?_
   refine yN ?_
   dsimp only [St.put]
   refine K8 _ ?_
   refine yR ?_
   refine yM rfl rfl ?_
   refine aa rfl (bn rfl rfl rfl (by omega)) ?_
   refine yA rfl rfl ?_
   refine yN ?_
   dsimp only [St.put]
   have e := uar (x := x) hq
   first
   | (have z : fe p.text x q = true := hb
      rw [z, cond_true] at e
      rw [show ((fm p.text x ((da p.text).take i) : Nat) : Int) + 1 = ((fm p.text x ((da p.text).take (i + 1)) : Nat) : Int) by rw [e]; rfl]
      exact ⟨i + 1, by omega, by omega, ⟨⟨rfl, rfl⟩, zF, zB, zN, zX⟩⟩)
   | (have z : fe p.text x q = false := hb
      rw [show fm p.text x ((da p.text).take i) = fm p.text x ((da p.text).take (i + 1)) by rw [e, z]; rfl]
      exact ⟨i + 1, by omega, by omega, ⟨⟨rfl, rfl⟩, zF, zB, zN, zX⟩⟩)
  have hb : fe p.text x q = false := hc
  refine av ?_
  refine K8 _ ?_
  refine yR ?_
  refine yM rfl rfl ?_
  refine aa rfl (bn rfl rfl rfl (by omega)) ?_
  refine yA rfl rfl ?_
  refine yN ?_
  dsimp only [St.put]
  have e := uar (x := x) hq
  first
  | (have z : fe p.text x q = true := hb
     rw [z, cond_true] at e
     rw [show ((fm p.text x ((da p.text).take i) : Nat) : Int) + 1 = ((fm p.text x ((da p.text).take (i + 1)) : Nat) : Int) by rw [e]; rfl]
     exact ⟨i + 1, by omega, by omega, ⟨⟨rfl, rfl⟩, zF, zB, zN, zX⟩⟩)
  | (have z : fe p.text x q = false := hb
     rw [show fm p.text x ((da p.text).take i) = fm p.text x ((da p.text).take (i + 1)) by rw [e, z]; rfl]
     exact ⟨i + 1, by omega, by omega, ⟨⟨rfl, rfl⟩, zF, zB, zN, zX⟩⟩)
 replace hc := of_decide_eq_false hc
 obtain rfl : i = (da p.text).length := by omega
 refine co ?_
 refine K4 _ ?_
 refine yS fun _ K10 => ?_
 refine yR ?_
 refine yM rfl rfl ?_
 refine yA rfl rfl ?_
 refine yN ?_
 dsimp only [St.put]
 refine K10 _ ?_
 refine ar ?_
 refine az rfl (by constructor) zN zS ?_
 exact vi (by rw [List.take_length]; rfl)
theorem ujg (p : af) (j : Nat) (x : am) (b : Bool) (ht : dc p.text = true) (hx : p.pages[j]? = some x) (hf : x.found.length ≤ 1000) (hw : x.well.length ≤ 1000) : Pure Tryz.prog 72 [val p, .v (.int .i64 (j : Int)), .v (.bool b)] (lst (bif b then dv p.text x else dg p.text x)) := by
 refine cn Tryz.func72 rfl (fun m => (bu _ _)) fun G nx => ?_
 simp only [Tryz.ntmps72, List.length_cons, List.length_nil, Nat.reduceAdd, Nat.reduceSub]
 refine bq fun hlt => ?_
 dsimp only at hlt
 have hal := lg ht
 have hjl := (List.getElem?_eq_some_iff.1 hx).1
 refine yS fun _ K1 => ?_
 refine yR ?_
 try dsimp only [St.put]
 refine yB rfl rfl rfl ?_
 refine yA rfl rfl ?_
 refine yN ?_
 dsimp only [St.put]
 refine K1 _ ?_
 refine yS fun _ K2 => ?_
 refine yR ?_
 refine yA rfl rfl ?_
 refine yN ?_
 dsimp only [St.put]
 refine K2 _ ?_
 refine ng 7 61 3 rfl (by decide) ?_
 dsimp only [List.set_cons_zero, List.set_cons_succ]
 refine yS fun _ K3 => ?_
 refine yR ?_
 refine yF rfl rfl rfl rfl ?_
 refine yL rfl rfl rfl ?_
 refine yM rfl rfl ?_
 refine aa rfl (bk rfl rfl rfl rfl (bj (by assumption)) (Enc.len _)) ?_
 refine yE rfl rfl rfl ?_
 try dsimp only [St.put]
 refine ae rfl (dt rfl ?_)
 try dsimp only [St.put]
 refine ae rfl (cx rfl rfl rfl zG rfl rfl (by rfl) ?_)
 refine yN ?_
 dsimp only [St.put]
 refine K3 _ ?_
 refine fu (i := 8) rfl zG zC ?_
 dsimp only
 refine yS fun _ K4 => ?_
 refine yR ?_
 refine yF rfl rfl rfl rfl ?_
 try dsimp only [St.put]
 refine bw rfl (c := gy p.text) (i3 (cs := cells p) rfl rfl (show 1 ≤ 4 by decide)) ?_
 try dsimp only [St.put]
 refine ae rfl (ay rfl rfl rfl (ubv p.text ht) ?_)
 refine yA rfl rfl ?_
 refine yN ?_
 dsimp only [St.put]
 refine K4 _ ?_
 refine yS fun _ K5 => ?_
 refine yS fun _ K6 => ?_
 refine yR ?_
 refine yA rfl rfl ?_
 refine yN ?_
 dsimp only [St.put]
 refine K6 _ ?_
 refine ba ?_
 refine cc 13 ?_
 refine zQ ?_
 refine cr ((ak G nx (.tip (m9 p.text x b 0).length 61 3))) zX ?_
 dsimp only
 refine cv (X := Nat) (fun i => i ≤ (da p.text).length) (fun i => (da p.text).length - i) (fun i => [(7, .list ((m9 p.text x b i).map cells) (.tip nx)), (10, .v (.int .i64 (i : Int))), (11, .any), (12, .any)]) (fun i G' => (ak G nx (.tip (m9 p.text x b i).length 61 3))) 0 rfl ?_ ?_ ?_ ?_ ?_ ?_
 ·exact Nat.zero_le _
 ·exact zF
 ·exact zX
 ·rintro i hI
  exact zL
 ·rintro i hI
  exact zH
 rintro i hI
 dsimp only at hI ⊢
 refine yS fun _ K7 => ?_
 refine yS fun _ K8 => ?_
 refine yR ?_
 refine yM rfl rfl ?_
 refine yM rfl rfl ?_
 refine aa rfl (bg rfl rfl (List.length_map _)) ?_
 refine aa rfl (ce rfl rfl rfl) ?_
 refine yN ?_
 dsimp only [St.put]
 refine K8 _ ?_
 refine aq rfl (fun hc => ?_) (fun hc => ?_)
 ·replace hc := of_decide_eq_true hc
  obtain ⟨q, hq⟩ : ∃ q, (da p.text)[i]? = some q := cw (by omega)
  have hfl := umj p.text x b i
  refine av ?_
  refine K7 _ ?_
  refine yS fun _ K9 => ?_
  refine ba ?_
  refine yS fun _ K10 => ?_
  refine f9 [(0, none), (1, none), (2, none), (3, none), (4, none), (5, none), (7, none), (8, none), (9, none), (10, none), (11, none), (12, none), (6, none), (13, none), (14, none), (15, none)] (fun i => [13].contains i) (fun i => [6, 13].contains i) (fun i => [0, 2, 3, 4, 7, 9, 10, 11, 14, 15].contains i) [] (by kernel_rfl) (by kernel_rfl) ?_
  refine ah rfl rfl rfl rfl (ca rfl rfl rfl) ?_
  try dsimp only [St.put]
  refine ax rfl rfl rfl rfl (bv rfl rfl) ?_
  refine xM rfl rfl rfl rfl rfl ?_
  refine xM rfl rfl rfl rfl rfl ?_
  try dsimp only [St.put]
  refine ah rfl rfl rfl rfl (bk rfl rfl rfl rfl (bj (by assumption)) (Enc.len _)) ?_
  try dsimp only [St.put]
  refine ax rfl rfl rfl rfl (d8 rfl rfl (Enc.len _)) ?_
  refine ah rfl rfl rfl rfl (ca rfl rfl rfl) ?_
  try dsimp only [St.put]
  refine ax rfl rfl rfl rfl (bv rfl rfl) ?_
  refine xM rfl rfl rfl rfl rfl ?_
  refine xM rfl rfl rfl rfl rfl ?_
  try dsimp only [St.put]
  refine ah rfl rfl rfl rfl (bk rfl rfl rfl rfl (bj (by assumption)) (Enc.len _)) ?_
  try dsimp only [St.put]
  refine ax rfl rfl rfl rfl (d8 rfl rfl (Enc.len _)) ?_
  refine ip ?_
  try dsimp only [St.put]
  refine i7 rfl rfl rfl (ay rfl rfl rfl (uby x.found q hf) ⟨zD, ?_⟩)
  try dsimp only [St.put]
  refine gl rfl rfl rfl rfl (ay rfl rfl rfl (uby x.well q hw) ?_)
  refine dw rfl rfl rfl rfl (fb rfl (by constructor)) ?_
  refine dw rfl rfl rfl rfl (fb rfl (by constructor)) ?_
  refine io ?_
  dsimp only [St.put]
  refine K10 _ ?_
  refine cc 13 ?_
  refine zQ ?_
  refine j0 (X := Bool) (fun d => jb x b q = d) (fun d => [(54, .v (.bool d))]) (fun d G' => G') rfl ?_ (fun _ _ _ _ h => .inl h) ?_ ?_
  ·rintro d hI
   exact zL
  ·refine yR ?_
   refine yM rfl rfl ?_
   refine yM rfl rfl ?_
   refine ef (fun hs => ?_) (fun hs => ?_)
   ·have s1 := hs
    refine yM rfl rfl ?_
    refine aa rfl (br rfl rfl (by constructor)) ?_
    refine ef (fun hs => ?_) (fun hs => ?_)
    ·have s3 := hs
     refine yM rfl rfl ?_
     refine yK rfl ?_
     refine yK rfl ?_
     refine yK rfl ?_
     refine yK rfl ?_
     refine yK rfl ?_
     refine yK rfl ?_
     refine yK rfl ?_
     refine yK rfl ?_
     refine aa rfl (br rfl rfl (by constructor)) ?_
     refine yN ?_
     dsimp only [St.put]
     refine ⟨_, ?_, ⟨⟨rfl, rfl⟩, zF, zB, zN, zX⟩⟩
     cases b <;> simp_all [jb]
    have s3 := hs
    refine yM rfl rfl ?_
    refine yM rfl rfl ?_
    refine aa rfl (dd rfl rfl) ?_
    refine ef (fun hs => ?_) (fun hs => ?_)
    ·have s6 := hs
     refine yM rfl rfl ?_
     refine yM rfl rfl ?_
     refine ef (fun hs => ?_) (fun hs => ?_)
     ·have s8 := hs
      refine yM rfl rfl ?_
      refine yK rfl ?_
      refine aa rfl (br rfl rfl (by constructor)) ?_
      refine aa rfl (br rfl rfl (by constructor)) ?_
      refine aa rfl (cb rfl rfl (by constructor)) ?_
      refine yN ?_
      dsimp only [St.put]
      refine ⟨_, ?_, ⟨⟨rfl, rfl⟩, zF, zB, zN, zX⟩⟩
      cases b <;> simp_all [jb]
     have s8 := hs
     refine yM rfl rfl ?_
     refine yM rfl rfl ?_
     refine aa rfl (cb rfl rfl (by constructor)) ?_
     refine aa rfl (br rfl rfl (by constructor)) ?_
     refine aa rfl (cb rfl rfl (by constructor)) ?_
     refine yN ?_
     dsimp only [St.put]
     refine ⟨_, ?_, ⟨⟨rfl, rfl⟩, zF, zB, zN, zX⟩⟩
     cases b <;> simp_all [jb]
    have s6 := hs
    refine yM rfl rfl ?_
    refine yK rfl ?_
    refine yK rfl ?_
    refine yK rfl ?_
    refine yK rfl ?_
    refine aa rfl (cb rfl rfl (by constructor)) ?_
    refine aa rfl (cb rfl rfl (by constructor)) ?_
    refine yN ?_
    dsimp only [St.put]
    refine ⟨_, ?_, ⟨⟨rfl, rfl⟩, zF, zB, zN, zX⟩⟩
    cases b <;> simp_all [jb]
   have s1 := hs
   refine yK rfl ?_
   refine aa rfl (cb rfl rfl (by constructor)) ?_
   refine yM rfl rfl ?_
   refine yM rfl rfl ?_
   refine aa rfl (dd rfl rfl) ?_
   refine ef (fun hs => ?_) (fun hs => ?_)
   ·have s6 := hs
    refine yM rfl rfl ?_
    refine yM rfl rfl ?_
    refine ef (fun hs => ?_) (fun hs => ?_)
    ·have s8 := hs
     refine yM rfl rfl ?_
     refine yK rfl ?_
     refine aa rfl (br rfl rfl (by constructor)) ?_
     refine aa rfl (br rfl rfl (by constructor)) ?_
     refine aa rfl (cb rfl rfl (by constructor)) ?_
     refine yN ?_
     dsimp only [St.put]
     refine ⟨_, ?_, ⟨⟨rfl, rfl⟩, zF, zB, zN, zX⟩⟩
     cases b <;> simp_all [jb]
    have s8 := hs
    refine yM rfl rfl ?_
    refine yM rfl rfl ?_
    refine aa rfl (cb rfl rfl (by constructor)) ?_
    refine aa rfl (br rfl rfl (by constructor)) ?_
    refine aa rfl (cb rfl rfl (by constructor)) ?_
    refine yN ?_
    dsimp only [St.put]
    refine ⟨_, ?_, ⟨⟨rfl, rfl⟩, zF, zB, zN, zX⟩⟩
    cases b <;> simp_all [jb]
   have s6 := hs
   refine yM rfl rfl ?_
   refine yK rfl ?_
   refine yK rfl ?_
   refine yK rfl ?_
   refine yK rfl ?_
   refine aa rfl (cb rfl rfl (by constructor)) ?_
   refine aa rfl (cb rfl rfl (by constructor)) ?_
   refine yN ?_
   dsimp only [St.put]
   refine ⟨_, ?_, ⟨⟨rfl, rfl⟩, zF, zB, zN, zX⟩⟩
   cases b <;> simp_all [jb]
  rintro d hst
  dsimp only at hst ⊢
  refine aq rfl (fun hc => ?_) (fun hc => ?_)
  ·have hb : jb x b q = true := hst.trans hc
   refine yR ?_
   refine yM rfl rfl ?_
   refine yM rfl rfl ?_
   refine yM rfl rfl ?_
   refine aa rfl (bk rfl rfl rfl rfl (bj (by assumption)) (Enc.len _)) ?_
   refine yE rfl rfl rfl ?_
   try dsimp only [St.put]
   refine ae rfl (dm rfl rfl rfl (by decide) (by decide) zR (by decide) ?_)
   try dsimp only [St.put]
   refine ae rfl (jt ([q]) rfl rfl zG zE rfl rfl zA ?_ zA)
   refine yA rfl rfl ?_
   refine yN ?_
   dsimp only [St.put]
   refine K9 _ ?_
   refine yR ?_
   refine yM rfl rfl ?_
   refine aa rfl (bn rfl rfl rfl (by omega)) ?_
   refine yA rfl rfl ?_
   refine yN ?_
   dsimp only [St.put]
   have e := ud2 (x := x) (b := b) hq
   first
   | (have z : jb x b q = true := hb
      rw [z, cond_true] at e
      rw [← e]
      exact ⟨i + 1, by omega, by omega, ⟨⟨rfl, rfl⟩, zF, zB, zN, zX⟩⟩)
   | (have z : jb x b q = false := hb
      rw [z, cond_false, List.append_nil] at e
      rw [← e]
      exact ⟨i + 1, by omega, by omega, ⟨⟨rfl, rfl⟩, zF, zB, zN, zX⟩⟩)
  have hb : jb x b q = false := hst.trans hc
  refine av ?_
  refine K9 _ ?_
  refine yR ?_
  refine yM rfl rfl ?_
  refine aa rfl (bn rfl rfl rfl (by omega)) ?_
  refine yA rfl rfl ?_
  refine yN ?_
  dsimp only [St.put]
  have e := ud2 (x := x) (b := b) hq
  first
  | (have z : jb x b q = true := hb
     rw [z, cond_true] at e
     rw [← e]
     exact ⟨i + 1, by omega, by omega, ⟨⟨rfl, rfl⟩, zF, zB, zN, zX⟩⟩)
  | (have z : jb x b q = false := hb
     rw [z, cond_false, List.append_nil] at e
     rw [← e]
     exact ⟨i + 1, by omega, by omega, ⟨⟨rfl, rfl⟩, zF, zB, zN, zX⟩⟩)
 replace hc := of_decide_eq_false hc
 obtain rfl : i = (da p.text).length := by omega
 have hfin := umk p.text x b
 refine co ?_
 refine K5 _ ?_
 refine yS fun _ K12 => ?_
 refine yR ?_
 refine yM rfl rfl ?_
 refine yA rfl rfl ?_
 refine yN ?_
 dsimp only [St.put]
 refine K12 _ ?_
 refine ar ?_
 refine pn rfl (dx (by constructor)) zN zS ?_
 rw [← hfin]
 exact zW
end Go.Proofs.YtbbdginipiljdaaGreatDoor
namespace Go.AB
open Go Go.RowKit
open Go.AB.Enc (cells)
open Go.PB (aw ai PlaceD bc bf bd bl am af ck bi cy c6)
theorem uz {l : List am} {g : am → Nat} (k : Nat) : cd (l.take k) g ≤ cd l g := by
 have h : cd l g = cd (l.take k) g + cd (l.drop k) g := by
  unfold cd
  rw [← List.sum_append, ← List.map_append, List.take_append_drop]
 omega
theorem uc4 {p : af} {b : Bool} {i : Nat} {r : bl} (h : (di p b)[i]? = some r) : kx p b i = r.miss := by unfold kx; rw [h]
theorem umt (R : Nat → Int) (S : Nat → Bool) (k : Nat) : fR R S (k + 1) = fR R S k + bif S k then R k else 0 := rfl
theorem uej (p : af) (C : Nat → Int) (S : Nat → Bool) (k : Nat) : fC p C S (k + 1) = fC p C S k + bif (bh p).hit S k then 0 else C k := rfl
end Go.AB
namespace Go.Proofs.YtbbdginipiljdaaGreatDoor
set_option maxRecDepth 10000
open Go.RowKit Go.AB
open Go.AB.Enc (cells)
open Go.PB (aw ai PlaceD bc bf bd bl am af ck bi cy c6)
theorem ubx (p : af) (j : Nat) (x : am) (b : Bool) (i : Int) (hx : p.pages[j]? = some x) : Pure Tryz.prog 74 [val p, .v (.int .i64 (j : Int)), .v (.bool b), .v (.int .i64 i)] (.v (.bool (decide (du b x = i)))) := by
 refine cn Tryz.func74 rfl (fun m => .v) fun G nx => ?_
 simp only [Tryz.ntmps74, List.length_cons, List.length_nil, Nat.reduceAdd, Nat.reduceSub]
 refine bq fun hlt => ?_
 dsimp only at hlt
 have hjl := (List.getElem?_eq_some_iff.1 hx).1
 refine yS fun _ K1 => ?_
 refine yR ?_
 try dsimp only [St.put]
 refine yB rfl rfl rfl ?_
 refine yA rfl rfl ?_
 refine yN ?_
 dsimp only [St.put]
 refine K1 _ ?_
 refine yS fun _ K2 => ?_
 refine yS fun _ K3 => ?_
 refine yR ?_
 refine yM rfl rfl ?_
 refine yN ?_
 dsimp only [St.put]
 refine K3 _ ?_
 refine aq rfl (fun hc => ?_) (fun hc => ?_)
 ·have hb : b = true := hc
  refine yS fun _ K4 => ?_
  refine yR ?_
  refine yF rfl rfl rfl rfl ?_
  refine yL rfl rfl rfl ?_
  refine yM rfl rfl ?_
  refine aa rfl (bk rfl rfl rfl rfl (bj (by assumption)) (Enc.len _)) ?_
  refine yF rfl rfl rfl rfl ?_
  refine yL rfl rfl rfl ?_
  refine yM rfl rfl ?_
  refine aa rfl (fa rfl rfl rfl) ?_
  refine yA rfl rfl ?_
  refine yN ?_
  dsimp only [St.put]
  refine K4 _ ?_
  refine ar ?_
  refine az rfl (by constructor) zN zS ?_
  exact vb (by rw [hb]; rfl)
 have hb : b = false := hc
 refine av ?_
 refine K2 _ ?_
 refine yS fun _ K5 => ?_
 refine yR ?_
 refine yF rfl rfl rfl rfl ?_
 refine yL rfl rfl rfl ?_
 refine yM rfl rfl ?_
 refine aa rfl (bk rfl rfl rfl rfl (bj (by assumption)) (Enc.len _)) ?_
 refine yF rfl rfl rfl rfl ?_
 refine yL rfl rfl rfl ?_
 refine yM rfl rfl ?_
 refine aa rfl (fa rfl rfl rfl) ?_
 refine yA rfl rfl ?_
 refine yN ?_
 dsimp only [St.put]
 refine K5 _ ?_
 refine ar ?_
 refine az rfl (by constructor) zN zS ?_
 exact vb (by rw [hb]; rfl)
theorem ubz (p : af) (j : Nat) (x : am) (ht : dc p.text = true) (hx : p.pages[j]? = some x) (hf : x.found.length ≤ 1000) (hw : x.well.length ≤ 1000) : Pure Tryz.prog 72 [val p, .v (.int .i64 (j : Int)), .v (.bool false)] (lst (dg p.text x)) := ujg p j x false ht hx hf hw
set_option maxHeartbeats 1000000 in
theorem ujh (p : af) (b : Bool) (i : Nat) (h : eb p) (hi : i < (di p b).length) : Pure Tryz.prog 75 [val p, .v (.bool b), .v (.int .i64 (i : Int))] (.tup [.v (.int .i64 (jm p b i)), .v (.int .i64 (k6 p b i))]) := by
 refine cn Tryz.func75 rfl (fun m => .tup (bz .v (bz .v c4))) fun G nx => ?_
 simp only [Tryz.ntmps75, List.length_cons, List.length_nil, Nat.reduceAdd, Nat.reduceSub]
 refine bq fun hlt => ?_
 dsimp only at hlt
 have hown := yf h b (i : Int)
 have hrd := x7 h b (i : Int)
 have hal := lg h.text
 have hnp := h.np
 have hmb := yr h b i
 obtain ⟨r, hr⟩ : ∃ r, (di p b)[i]? = some r := cw hi
 have hmr := uc4 hr
 refine yS fun _ K1 => ?_
 refine yR ?_
 try dsimp only [St.put]
 refine yB rfl rfl rfl ?_
 refine yA rfl rfl ?_
 refine yA rfl rfl ?_
 refine yN ?_
 dsimp only [St.put]
 refine K1 _ ?_
 refine yS fun _ K2 => ?_
 refine yR ?_
 refine yA rfl rfl ?_
 refine yA rfl rfl ?_
 refine yN ?_
 dsimp only [St.put]
 refine K2 _ ?_
 refine yS fun _ K3 => ?_
 refine yS fun _ K4 => ?_
 refine yR ?_
 refine yA rfl rfl ?_
 refine yN ?_
 dsimp only [St.put]
 refine K4 _ ?_
 refine ba ?_
 refine cc 13 ?_
 refine zQ ?_
 refine cr (G) zX ?_
 dsimp only
 refine cv (X := Nat) (fun k => k ≤ p.pages.length) (fun k => p.pages.length - k) (fun k => [(8, .v (.int .i64 ((cd (p.pages.take k) (cz b (i : Int)) : Nat) : Int))), (9, .v (.int .i64 ((cd (p.pages.take k) (dj p.text b (i : Int)) : Nat) : Int))), (10, .v (.int .i64 (k : Int)))]) (fun k G' => G') 0 rfl ?_ ?_ (fun _ _ h => h) ?_ ?_ ?_
 ·exact Nat.zero_le _
 ·exact zF
 ·rintro k hI
  exact zL
 ·exact fun _ _ _ _ h => .inl h
 rintro k hI
 dsimp only at hI ⊢
 refine yS fun _ K5 => ?_
 refine yS fun _ K6 => ?_
 refine yR ?_
 refine yM rfl rfl ?_
 refine yF rfl rfl rfl rfl ?_
 refine yL rfl rfl rfl ?_
 refine aa rfl (bg rfl rfl (List.length_map _)) ?_
 refine aa rfl (ce rfl rfl rfl) ?_
 refine yN ?_
 dsimp only [St.put]
 refine K6 _ ?_
 refine aq rfl (fun hc => ?_) (fun hc => ?_)
 ·replace hc := of_decide_eq_true hc
  obtain ⟨x, hx⟩ : ∃ x, p.pages[k]? = some x := cw (by omega)
  have hp := pageB_true.1 (h.page k x hx)
  have hfl := lm hp.found
  have hwl := lm hp.well
  have hgl := rt p.text x
  have ht1 := uz (l := p.pages) (g := cz b (i : Int)) k
  have ht2 := uz (l := p.pages) (g := dj p.text b (i : Int)) k
  refine av ?_
  refine K5 _ ?_
  refine yS fun _ K7 => ?_
  refine ba ?_
  refine yS fun _ K8 => ?_
  refine yS fun _ K9 => ?_
  refine yR ?_
  refine yE rfl rfl rfl ?_
  refine yM rfl rfl ?_
  refine yM rfl rfl ?_
  refine yM rfl rfl ?_
  try dsimp only [St.put]
  refine ae rfl (ay rfl rfl rfl (ubx p k x b (i : Int) hx) ?_)
  refine aa rfl (dd rfl rfl) ?_
  refine yN ?_
  dsimp only [St.put]
  refine K9 _ ?_
  refine aq rfl (fun hc => ?_) (fun hc => ?_)
  ·have hno : ¬ du b x = (i : Int) := by simpa using hc
   refine co ?_
   refine K7 _ ?_
   refine yR ?_
   refine yM rfl rfl ?_
   refine aa rfl (bn rfl rfl rfl (by omega)) ?_
   refine yA rfl rfl ?_
   refine yN ?_
   dsimp only [St.put]
   have e1 := lz (g := cz b (i : Int)) hx
   have e2 := lz (g := dj p.text b (i : Int)) hx
   first
   | (have z : ¬ du b x = (i : Int) := hno
      rw [show cd (p.pages.take k) (cz b (i : Int)) = cd (p.pages.take (k + 1)) (cz b (i : Int)) by rw [e1]; unfold cz; rw [decide_eq_false z]; rfl, show cd (p.pages.take k) (dj p.text b (i : Int)) = cd (p.pages.take (k + 1)) (dj p.text b (i : Int)) by rw [e2]; unfold dj; rw [decide_eq_false z]; rfl]
      exact ⟨k + 1, by omega, by omega, ⟨⟨rfl, rfl⟩, zF, zB, zN, zX⟩⟩)
   | (have z : b = true := hb
      rw [show ((cd (p.pages.take k) (cz b (i : Int)) : Nat) : Int) + (x.well.length : Int) = ((cd (p.pages.take (k + 1)) (cz b (i : Int)) : Nat) : Int) by rw [e1]; unfold cz; rw [decide_eq_true hyes, cond_true, z]; rfl, show ((cd (p.pages.take k) (dj p.text b (i : Int)) : Nat) : Int) + ((dg p.text x).length : Int) = ((cd (p.pages.take (k + 1)) (dj p.text b (i : Int)) : Nat) : Int) by rw [e2]; unfold dj; rw [decide_eq_true hyes, cond_true]; rfl]
      exact ⟨k + 1, by omega, by omega, ⟨⟨rfl, rfl⟩, zF, zB, zN, zX⟩⟩)
   | (have z : b = false := hb
      rw [show ((cd (p.pages.take k) (cz b (i : Int)) : Nat) : Int) + (x.found.length : Int) = ((cd (p.pages.take (k + 1)) (cz b (i : Int)) : Nat) : Int) by rw [e1]; unfold cz; rw [decide_eq_true hyes, cond_true, z]; rfl, show ((cd (p.pages.take k) (dj p.text b (i : Int)) : Nat) : Int) + ((dg p.text x).length : Int) = ((cd (p.pages.take (k + 1)) (dj p.text b (i : Int)) : Nat) : Int) by rw [e2]; unfold dj; rw [decide_eq_true hyes, cond_true]; rfl]
      exact ⟨k + 1, by omega, by omega, ⟨⟨rfl, rfl⟩, zF, zB, zN, zX⟩⟩)
  have hyes : du b x = (i : Int) := by simpa using hc
  refine av ?_
  refine K8 _ ?_
  refine yS fun _ K10 => ?_
  refine yR ?_
  refine yM rfl rfl ?_
  refine yE rfl rfl rfl ?_
  refine yM rfl rfl ?_
  try dsimp only [St.put]
  refine ae rfl (ay rfl rfl rfl (ubz p k x h.text hx (by omega) (by omega)) ?_)
  refine aa rfl (bg rfl rfl (List.length_map _)) ?_
  refine aa rfl (bn rfl rfl rfl (by omega)) ?_
  refine yA rfl rfl ?_
  refine yN ?_
  dsimp only [St.put]
  refine K10 _ ?_
  refine yS fun _ K11 => ?_
  refine yR ?_
  refine yM rfl rfl ?_
  refine yN ?_
  dsimp only [St.put]
  refine K11 _ ?_
  refine aq rfl (fun hc => ?_) (fun hc => ?_)
  ·have hb : b = true := hc
   refine yR ?_
   refine yM rfl rfl ?_
   refine yF rfl rfl rfl rfl ?_
   refine yL rfl rfl rfl ?_
   refine yM rfl rfl ?_
   refine aa rfl (bk rfl rfl rfl rfl (bj (by assumption)) (Enc.len _)) ?_
   refine yF rfl rfl rfl rfl ?_
   refine yL rfl rfl rfl ?_
   refine aa rfl (bg rfl rfl (List.length_map _)) ?_
   refine aa rfl (bn rfl rfl rfl (by omega)) ?_
   refine yA rfl rfl ?_
   refine yN ?_
   dsimp only [St.put]
   refine K7 _ ?_
   refine yR ?_
   refine yM rfl rfl ?_
   refine aa rfl (bn rfl rfl rfl (by omega)) ?_
   refine yA rfl rfl ?_
   refine yN ?_
   dsimp only [St.put]
   have e1 := lz (g := cz b (i : Int)) hx
   have e2 := lz (g := dj p.text b (i : Int)) hx
   first
   | (have z : ¬ du b x = (i : Int) := hno
      rw [show cd (p.pages.take k) (cz b (i : Int)) = cd (p.pages.take (k + 1)) (cz b (i : Int)) by rw [e1]; unfold cz; rw [decide_eq_false z]; rfl, show cd (p.pages.take k) (dj p.text b (i : Int)) = cd (p.pages.take (k + 1)) (dj p.text b (i : Int)) by rw [e2]; unfold dj; rw [decide_eq_false z]; rfl]
      exact ⟨k + 1, by omega, by omega, ⟨⟨rfl, rfl⟩, zF, zB, zN, zX⟩⟩)
   | (have z : b = true := hb
      rw [show ((cd (p.pages.take k) (cz b (i : Int)) : Nat) : Int) + (x.well.length : Int) = ((cd (p.pages.take (k + 1)) (cz b (i : Int)) : Nat) : Int) by rw [e1]; unfold cz; rw [decide_eq_true hyes, cond_true, z]; rfl, show ((cd (p.pages.take k) (dj p.text b (i : Int)) : Nat) : Int) + ((dg p.text x).length : Int) = ((cd (p.pages.take (k + 1)) (dj p.text b (i : Int)) : Nat) : Int) by rw [e2]; unfold dj; rw [decide_eq_true hyes, cond_true]; rfl]
      exact ⟨k + 1, by omega, by omega, ⟨⟨rfl, rfl⟩, zF, zB, zN, zX⟩⟩)
   | (have z : b = false := hb
      rw [show ((cd (p.pages.take k) (cz b (i : Int)) : Nat) : Int) + (x.found.length : Int) = ((cd (p.pages.take (k + 1)) (cz b (i : Int)) : Nat) : Int) by rw [e1]; unfold cz; rw [decide_eq_true hyes, cond_true, z]; rfl, show ((cd (p.pages.take k) (dj p.text b (i : Int)) : Nat) : Int) + ((dg p.text x).length : Int) = ((cd (p.pages.take (k + 1)) (dj p.text b (i : Int)) : Nat) : Int) by rw [e2]; unfold dj; rw [decide_eq_true hyes, cond_true]; rfl]
      exact ⟨k + 1, by omega, by omega, ⟨⟨rfl, rfl⟩, zF, zB, zN, zX⟩⟩)
  have hb : b = false := hc
  refine yR ?_
  refine yM rfl rfl ?_
  refine yF rfl rfl rfl rfl ?_
  refine yL rfl rfl rfl ?_
  refine yM rfl rfl ?_
  refine aa rfl (bk rfl rfl rfl rfl (bj (by assumption)) (Enc.len _)) ?_
  refine yF rfl rfl rfl rfl ?_
  refine yL rfl rfl rfl ?_
  refine aa rfl (bg rfl rfl (List.length_map _)) ?_
  refine aa rfl (bn rfl rfl rfl (by omega)) ?_
  refine yA rfl rfl ?_
  refine yN ?_
  dsimp only [St.put]
  refine K7 _ ?_
  refine yR ?_
  refine yM rfl rfl ?_
  refine aa rfl (bn rfl rfl rfl (by omega)) ?_
  refine yA rfl rfl ?_
  refine yN ?_
  dsimp only [St.put]
  have e1 := lz (g := cz b (i : Int)) hx
  have e2 := lz (g := dj p.text b (i : Int)) hx
  first
  | (have z : ¬ du b x = (i : Int) := hno
     rw [show cd (p.pages.take k) (cz b (i : Int)) = cd (p.pages.take (k + 1)) (cz b (i : Int)) by rw [e1]; unfold cz; rw [decide_eq_false z]; rfl, show cd (p.pages.take k) (dj p.text b (i : Int)) = cd (p.pages.take (k + 1)) (dj p.text b (i : Int)) by rw [e2]; unfold dj; rw [decide_eq_false z]; rfl]
     exact ⟨k + 1, by omega, by omega, ⟨⟨rfl, rfl⟩, zF, zB, zN, zX⟩⟩)
  | (have z : b = true := hb
     rw [show ((cd (p.pages.take k) (cz b (i : Int)) : Nat) : Int) + (x.well.length : Int) = ((cd (p.pages.take (k + 1)) (cz b (i : Int)) : Nat) : Int) by rw [e1]; unfold cz; rw [decide_eq_true hyes, cond_true, z]; rfl, show ((cd (p.pages.take k) (dj p.text b (i : Int)) : Nat) : Int) + ((dg p.text x).length : Int) = ((cd (p.pages.take (k + 1)) (dj p.text b (i : Int)) : Nat) : Int) by rw [e2]; unfold dj; rw [decide_eq_true hyes, cond_true]; rfl]
     exact ⟨k + 1, by omega, by omega, ⟨⟨rfl, rfl⟩, zF, zB, zN, zX⟩⟩)
  | (have z : b = false := hb
     rw [show ((cd (p.pages.take k) (cz b (i : Int)) : Nat) : Int) + (x.found.length : Int) = ((cd (p.pages.take (k + 1)) (cz b (i : Int)) : Nat) : Int) by rw [e1]; unfold cz; rw [decide_eq_true hyes, cond_true, z]; rfl, show ((cd (p.pages.take k) (dj p.text b (i : Int)) : Nat) : Int) + ((dg p.text x).length : Int) = ((cd (p.pages.take (k + 1)) (dj p.text b (i : Int)) : Nat) : Int) by rw [e2]; unfold dj; rw [decide_eq_true hyes, cond_true]; rfl]
     exact ⟨k + 1, by omega, by omega, ⟨⟨rfl, rfl⟩, zF, zB, zN, zX⟩⟩)
 replace hc := of_decide_eq_false hc
 obtain rfl : k = p.pages.length := by omega
 refine co ?_
 refine K3 _ ?_
 refine yS fun _ K12 => ?_
 refine yR ?_
 refine yA rfl rfl ?_
 refine yN ?_
 dsimp only [St.put]
 rw [ga (Nat.le_refl p.pages.length)]
 refine K12 _ ?_
 refine yS fun _ K13 => ?_
 refine yS fun _ K14 => ?_
 refine yR ?_
 refine yM rfl rfl ?_
 refine yN ?_
 dsimp only [St.put]
 refine K14 _ ?_
 refine aq rfl (fun hc => ?_) (fun hc => ?_)
 ·have hb2 : b = true := hc
  have hr2 : p.seconds[i]? = some r := by rw [hb2] at hr; exact hr
  have hil := (List.getElem?_eq_some_iff.1 hr2).1
  refine yR ?_
  refine yF rfl rfl rfl rfl ?_
  refine yL rfl rfl rfl ?_
  refine yM rfl rfl ?_
  refine aa rfl (bk rfl rfl rfl rfl (bj (by assumption)) (Enc.len _)) ?_
  refine yF rfl rfl rfl rfl ?_
  refine yL rfl rfl rfl ?_
  refine yA rfl rfl ?_
  refine yN ?_
  dsimp only [St.put]
  refine K13 _ ?_
  refine yS fun _ K15 => ?_
  refine yR ?_
  refine yM rfl rfl ?_
  refine aa rfl (tn rfl rfl rfl (by omega)) ?_
  refine yM rfl rfl ?_
  refine aa rfl (gn rfl rfl rfl (by omega)) ?_
  refine aa rfl (tm rfl rfl rfl (by omega) (by omega)) ?_
  refine yA rfl rfl ?_
  refine yN ?_
  dsimp only [St.put]
  rw [show (100 * ((cd p.pages (cz b (i : Int)) : Nat) : Int)) / (100 - r.miss) = jm p b i by unfold jm; rw [hmr]]
  have hbd := wz h b i
  refine K15 _ ?_
  refine yS fun _ K16 => ?_
  refine yR ?_
  refine yM rfl rfl ?_
  refine yM rfl rfl ?_
  refine yM rfl rfl ?_
  refine aa rfl (gn rfl rfl rfl (by omega)) ?_
  refine yA rfl rfl ?_
  refine yA rfl rfl ?_
  refine yN ?_
  dsimp only [St.put]
  refine K16 _ ?_
  refine ar ?_
  refine jk rfl (by constructor) (by constructor) zN zS ?_ ?_
  ·rfl
  exact vi (by unfold k6; rfl)
 have hb2 : b = false := hc
 have hr2 : p.firsts[i]? = some r := by rw [hb2] at hr; exact hr
 have hil := (List.getElem?_eq_some_iff.1 hr2).1
 refine yR ?_
 refine yF rfl rfl rfl rfl ?_
 refine yL rfl rfl rfl ?_
 refine yM rfl rfl ?_
 refine aa rfl (bk rfl rfl rfl rfl (bj (by assumption)) (Enc.len _)) ?_
 refine yF rfl rfl rfl rfl ?_
 refine yL rfl rfl rfl ?_
 refine yA rfl rfl ?_
 refine yN ?_
 dsimp only [St.put]
 refine K13 _ ?_
 refine yS fun _ K17 => ?_
 refine yR ?_
 refine yM rfl rfl ?_
 refine aa rfl (tn rfl rfl rfl (by omega)) ?_
 refine yM rfl rfl ?_
 refine aa rfl (gn rfl rfl rfl (by omega)) ?_
 refine aa rfl (tm rfl rfl rfl (by omega) (by omega)) ?_
 refine yA rfl rfl ?_
 refine yN ?_
 dsimp only [St.put]
 rw [show (100 * ((cd p.pages (cz b (i : Int)) : Nat) : Int)) / (100 - r.miss) = jm p b i by unfold jm; rw [hmr]]
 have hbd := wz h b i
 refine K17 _ ?_
 refine yS fun _ K18 => ?_
 refine yR ?_
 refine yM rfl rfl ?_
 refine yM rfl rfl ?_
 refine yM rfl rfl ?_
 refine aa rfl (gn rfl rfl rfl (by omega)) ?_
 refine yA rfl rfl ?_
 refine yA rfl rfl ?_
 refine yN ?_
 dsimp only [St.put]
 refine K18 _ ?_
 refine ar ?_
 refine jk rfl (by constructor) (by constructor) zN zS ?_ ?_
 ·rfl
 exact vi (by unfold k6; rfl)
end Go.Proofs.YtbbdginipiljdaaGreatDoor
namespace Go.Proofs.YtbbdginipiljdaaGreatDoor
set_option maxRecDepth 10000
open Go Go.RowKit Go.AB
open Go.AB.Enc (cells)
open Go.PB (aw ai PlaceD bc bf bd bl am af ck bi cy c6)
theorem uid (p : af) : Pure Tryz.prog 157 [val p] (lst p.firsts) := by
 refine cn Tryz.func157 rfl (fun m => (bu _ _)) fun G nx => ?_
 simp only [Tryz.ntmps157, List.length_cons, List.length_nil, Nat.reduceAdd, Nat.reduceSub]
 refine bq fun hlt => ?_
 dsimp only at hlt
 refine yS fun _ K1 => ?_
 refine yR ?_
 try dsimp only [St.put]
 refine yB rfl rfl rfl ?_
 refine yA rfl rfl ?_
 refine yN ?_
 dsimp only [St.put]
 refine K1 _ ?_
 refine yS fun _ K2 => ?_
 refine yR ?_
 refine yF rfl rfl rfl rfl ?_
 refine yL rfl rfl rfl ?_
 refine yA rfl rfl ?_
 refine yN ?_
 dsimp only [St.put]
 refine K2 _ ?_
 refine ar ?_
 refine az rfl (by constructor) zN zS ?_
 rfl
theorem uic (x : am) : Pure Tryz.prog 158 [val x] (.v (.int .i64 x.fst)) := by
 refine cn Tryz.func158 rfl (fun m => .v) fun G nx => ?_
 simp only [Tryz.ntmps158, List.length_cons, List.length_nil, Nat.reduceAdd, Nat.reduceSub]
 refine bq fun hlt => ?_
 dsimp only at hlt
 refine yS fun _ K1 => ?_
 refine yR ?_
 try dsimp only [St.put]
 refine yB rfl rfl rfl ?_
 refine yA rfl rfl ?_
 refine yN ?_
 dsimp only [St.put]
 refine K1 _ ?_
 refine yS fun _ K2 => ?_
 refine yR ?_
 refine yF rfl rfl rfl rfl ?_
 refine yL rfl rfl rfl ?_
 refine yA rfl rfl ?_
 refine yN ?_
 dsimp only [St.put]
 refine K2 _ ?_
 refine ar ?_
 refine az rfl (by constructor) zN zS ?_
 rfl
theorem uib (x : am) : Pure Tryz.prog 159 [val x] (lst x.found) := by
 refine cn Tryz.func159 rfl (fun m => (bu _ _)) fun G nx => ?_
 simp only [Tryz.ntmps159, List.length_cons, List.length_nil, Nat.reduceAdd, Nat.reduceSub]
 refine bq fun hlt => ?_
 dsimp only at hlt
 refine yS fun _ K1 => ?_
 refine yR ?_
 try dsimp only [St.put]
 refine yB rfl rfl rfl ?_
 refine yA rfl rfl ?_
 refine yN ?_
 dsimp only [St.put]
 refine K1 _ ?_
 refine yS fun _ K2 => ?_
 refine yR ?_
 refine yF rfl rfl rfl rfl ?_
 refine yL rfl rfl rfl ?_
 refine yA rfl rfl ?_
 refine yN ?_
 dsimp only [St.put]
 refine K2 _ ?_
 refine ar ?_
 refine az rfl (by constructor) zN zS ?_
 rfl
theorem uia (p : af) : Pure Tryz.prog 160 [val p] (lst p.seconds) := by
 refine cn Tryz.func160 rfl (fun m => (bu _ _)) fun G nx => ?_
 simp only [Tryz.ntmps160, List.length_cons, List.length_nil, Nat.reduceAdd, Nat.reduceSub]
 refine bq fun hlt => ?_
 dsimp only at hlt
 refine yS fun _ K1 => ?_
 refine yR ?_
 try dsimp only [St.put]
 refine yB rfl rfl rfl ?_
 refine yA rfl rfl ?_
 refine yN ?_
 dsimp only [St.put]
 refine K1 _ ?_
 refine yS fun _ K2 => ?_
 refine yR ?_
 refine yF rfl rfl rfl rfl ?_
 refine yL rfl rfl rfl ?_
 refine yA rfl rfl ?_
 refine yN ?_
 dsimp only [St.put]
 refine K2 _ ?_
 refine ar ?_
 refine az rfl (by constructor) zN zS ?_
 rfl
theorem uh9 (x : am) : Pure Tryz.prog 161 [val x] (.v (.int .i64 x.snd)) := by
 refine cn Tryz.func161 rfl (fun m => .v) fun G nx => ?_
 simp only [Tryz.ntmps161, List.length_cons, List.length_nil, Nat.reduceAdd, Nat.reduceSub]
 refine bq fun hlt => ?_
 dsimp only at hlt
 refine yS fun _ K1 => ?_
 refine yR ?_
 try dsimp only [St.put]
 refine yB rfl rfl rfl ?_
 refine yA rfl rfl ?_
 refine yN ?_
 dsimp only [St.put]
 refine K1 _ ?_
 refine yS fun _ K2 => ?_
 refine yR ?_
 refine yF rfl rfl rfl rfl ?_
 refine yL rfl rfl rfl ?_
 refine yA rfl rfl ?_
 refine yN ?_
 dsimp only [St.put]
 refine K2 _ ?_
 refine ar ?_
 refine az rfl (by constructor) zN zS ?_
 rfl
theorem uh8 (x : am) : Pure Tryz.prog 162 [val x] (lst x.well) := by
 refine cn Tryz.func162 rfl (fun m => (bu _ _)) fun G nx => ?_
 simp only [Tryz.ntmps162, List.length_cons, List.length_nil, Nat.reduceAdd, Nat.reduceSub]
 refine bq fun hlt => ?_
 dsimp only at hlt
 refine yS fun _ K1 => ?_
 refine yR ?_
 try dsimp only [St.put]
 refine yB rfl rfl rfl ?_
 refine yA rfl rfl ?_
 refine yN ?_
 dsimp only [St.put]
 refine K1 _ ?_
 refine yS fun _ K2 => ?_
 refine yR ?_
 refine yF rfl rfl rfl rfl ?_
 refine yL rfl rfl rfl ?_
 refine yA rfl rfl ?_
 refine yN ?_
 dsimp only [St.put]
 refine K2 _ ?_
 refine ar ?_
 refine az rfl (by constructor) zN zS ?_
 rfl
def sRd (b : Bool) : FuncId := bif b then 160 else 157
def sFt (b : Bool) : FuncId := bif b then 161 else 158
def sFd (b : Bool) : FuncId := bif b then 162 else 159
instance (b : Bool) : Fun Tryz.prog (sRd b) := by
 cases b
 ·exact inferInstanceAs (Fun Tryz.prog 157)
 exact inferInstanceAs (Fun Tryz.prog 160)
instance (b : Bool) : Fun Tryz.prog (sFt b) := by
 cases b
 ·exact inferInstanceAs (Fun Tryz.prog 158)
 exact inferInstanceAs (Fun Tryz.prog 161)
instance (b : Bool) : Fun Tryz.prog (sFd b) := by
 cases b
 ·exact inferInstanceAs (Fun Tryz.prog 159)
 exact inferInstanceAs (Fun Tryz.prog 162)
theorem o7 (b : Bool) (p : af) : Pure Tryz.prog (sRd b) [val p] (lst (di p b)) := by
 cases b
 ·exact uid p
 exact uia p
theorem xw (b : Bool) (x : am) : Pure Tryz.prog (sFt b) [val x] (.v (.int .i64 (du b x))) := by
 cases b
 ·exact uic x
 exact uh9 x
theorem ubl (b : Bool) (x : am) : Pure Tryz.prog (sFd b) [val x] (lst (c7 b x)) := by
 cases b
 ·exact uib x
 exact uh8 x
abbrev nt (b : Bool) : List C := [.fn (.func (sRd b)) [], .fn (.func (sFt b)) [], .fn (.func (sFd b)) []]
abbrev sidL : List C := nt false ++ nt true
abbrev em : GObj := .fact (.pointer (some ⟨0, 0, none⟩)) (.elem sidL)
abbrev j4 (p : af) : List C := [lst p.text, lst p.firsts, lst p.seconds, lst p.pages, lst (p.pages.map fun x => (el p.text x : Int)), lst (p.pages.map (dg p.text)), lst (p.pages.map (dv p.text))]
theorem ve : ∀ {k : Nat}, k < 2 → (sidL.drop (k * 3)).take 3 = nt (decide (k = 1))
 | 0, _ => rfl
 | 1, _ => rfl
 | k + 2, h => by omega
set_option maxHeartbeats 1000000 in
theorem ub9 (p : af) (b : Bool) (i : Nat) (h : eb p) (hi : i < (di p b).length) : Pure Tryz.prog 77 [.elem (j4 p), .agg (nt b), .v (.int .i64 (i : Int))] (.tup [.v (.int .i64 (jm p b i)), .v (.int .i64 (k6 p b i))]) := by
 refine cn Tryz.func77 rfl (fun m => .tup (bz .v (bz .v c4))) fun G nx => ?_
 simp only [Tryz.ntmps77, List.length_cons, List.length_nil, Nat.reduceAdd, Nat.reduceSub]
 refine bq fun hlt => ?_
 dsimp only at hlt
 have hown := yf h b (i : Int)
 have hrd := x7 h b (i : Int)
 have hal := lg h.text
 have hnp := h.np
 have hmb := yr h b i
 obtain ⟨r, hr⟩ : ∃ r, (di p b)[i]? = some r := cw hi
 have hmr := uc4 hr
 refine yS fun _ K1 => ?_
 refine yR ?_
 try dsimp only [St.put]
 refine yB rfl rfl rfl ?_
 refine yA rfl rfl ?_
 refine yA rfl rfl ?_
 refine yN ?_
 dsimp only [St.put]
 refine K1 _ ?_
 refine yS fun _ K2 => ?_
 refine yR ?_
 refine yA rfl rfl ?_
 refine yA rfl rfl ?_
 refine yN ?_
 dsimp only [St.put]
 refine K2 _ ?_
 refine yS fun _ K3 => ?_
 refine yS fun _ K4 => ?_
 refine yR ?_
 refine yM rfl rfl ?_
 refine aa rfl (kr rfl rfl) ?_
 refine yF rfl rfl rfl rfl ?_
 refine yF rfl rfl rfl rfl ?_
 refine yL rfl rfl rfl ?_
 refine aa rfl (bg rfl rfl (List.length_map _)) ?_
 refine yM rfl rfl ?_
 refine yN ?_
 dsimp only [St.put]
 refine K4 _ ?_
 refine ba ?_
 refine cc 20 ?_
 refine zQ ?_
 refine cr (G) zX ?_
 dsimp only
 refine cv (X := Nat) (fun k => k ≤ p.pages.length) (fun k => p.pages.length - k) (fun k => [(8, .v (.int .i64 ((cd (p.pages.take k) (cz b (i : Int)) : Nat) : Int))), (9, .v (.int .i64 ((cd (p.pages.take k) (dj p.text b (i : Int)) : Nat) : Int))), (10, .any), (11, .any), (19, .v (.int .i64 (k : Int)))]) (fun k G' => G') 0 rfl ?_ ?_ (fun _ _ h => h) ?_ ?_ ?_
 ·exact Nat.zero_le _
 ·exact zF
 ·rintro k hI
  exact zL
 ·exact fun _ _ _ _ h => .inl h
 rintro k hI
 dsimp only at hI ⊢
 refine yS fun _ K5 => ?_
 refine yR ?_
 refine aa rfl (ce rfl rfl rfl) ?_
 refine yN ?_
 dsimp only [St.put]
 refine K5 _ ?_
 refine yS fun _ K6 => ?_
 refine aq rfl (fun hc => ?_) (fun hc => ?_)
 ·replace hc := of_decide_eq_true hc
  obtain ⟨x, hx⟩ : ∃ x, p.pages[k]? = some x := cw (by omega)
  have hax : (p.pages.map (dg p.text))[k]? = some (dg p.text x) := by rw [List.getElem?_map, hx]; rfl
  have hp := pageB_true.1 (h.page k x hx)
  have hfd : (c7 b x).length ≤ 600 := by
   have hfl := lm hp.found
   have hwl := lm hp.well
   cases b
   ·show x.found.length ≤ 600
    omega
   show x.well.length ≤ 600
   omega
  have hgl := rt p.text x
  have ht1 := uz (l := p.pages) (g := cz b (i : Int)) k
  have ht2 := uz (l := p.pages) (g := dj p.text b (i : Int)) k
  refine av ?_
  refine K6 _ ?_
  refine yS fun _ K7 => ?_
  refine ba ?_
  refine yS fun _ K8 => ?_
  refine yR ?_
  refine yM rfl rfl ?_
  refine aa rfl (bk rfl rfl rfl rfl (bj (by assumption)) (Enc.len _)) ?_
  refine yE rfl rfl rfl ?_
  try dsimp only [St.put]
  refine ae rfl (dt rfl ?_)
  refine yA rfl rfl ?_
  try dsimp only [St.put]
  refine ae rfl (cx rfl rfl rfl zG rfl rfl (by rfl) ?_)
  refine yN ?_
  dsimp only [St.put]
  refine K8 _ ?_
  refine fu (i := 11) rfl zG zC ?_
  dsimp only
  refine yS fun _ K9 => ?_
  refine yR ?_
  refine yF rfl rfl rfl rfl ?_
  refine yL rfl rfl rfl ?_
  refine yE rfl rfl rfl ?_
  try dsimp only [St.put]
  refine ae rfl (ay rfl rfl rfl (xw b x) ?_)
  refine yM rfl rfl ?_
  refine aa rfl (fa rfl rfl rfl) ?_
  refine yN ?_
  dsimp only [St.put]
  refine K9 _ ?_
  refine aq rfl (fun hc => ?_) (fun hc => ?_)
  ·have hyes : du b x = (i : Int) := of_decide_eq_true hc
   refine yS fun _ K10 => ?_
   refine yR ?_
   refine yM rfl rfl ?_
   refine yF rfl rfl rfl rfl ?_
   refine yL rfl rfl rfl ?_
   refine yE rfl rfl rfl ?_
   try dsimp only [St.put]
   refine ae rfl (ay rfl rfl rfl (ubl b x) ?_)
   refine aa rfl (bg rfl rfl (List.length_map _)) ?_
   refine aa rfl (bn rfl rfl rfl (by omega)) ?_
   refine yA rfl rfl ?_
   refine yN ?_
   dsimp only [St.put]
   refine K10 _ ?_
   refine yR ?_
   refine yM rfl rfl ?_
   refine yM rfl rfl ?_
   refine aa rfl (kr rfl rfl) ?_
   refine yF rfl rfl rfl rfl ?_
   refine yL rfl rfl rfl ?_
   refine yM rfl rfl ?_
   refine aa rfl (bk rfl rfl rfl rfl (bj (by assumption)) (Enc.len _)) ?_
   refine yL rfl rfl rfl ?_
   refine aa rfl (bg rfl rfl (List.length_map _)) ?_
   refine aa rfl (bn rfl rfl rfl (by omega)) ?_
   refine yA rfl rfl ?_
   refine yN ?_
   dsimp only [St.put]
   refine K7 _ ?_
   refine yR ?_
   refine aa rfl (bn rfl rfl rfl (by omega)) ?_
   refine yM rfl rfl ?_
   refine yN ?_
   dsimp only [St.put]
   have e1 := lz (g := cz b (i : Int)) hx
   have e2 := lz (g := dj p.text b (i : Int)) hx
   first
   | (have z : du b x = (i : Int) := hyes
      rw [show ((cd (p.pages.take k) (cz b (i : Int)) : Nat) : Int) + ((c7 b x).length : Int) = ((cd (p.pages.take (k + 1)) (cz b (i : Int)) : Nat) : Int) by rw [e1]; unfold cz; rw [decide_eq_true z, cond_true]; rfl, show ((cd (p.pages.take k) (dj p.text b (i : Int)) : Nat) : Int) + ((dg p.text x).length : Int) = ((cd (p.pages.take (k + 1)) (dj p.text b (i : Int)) : Nat) : Int) by rw [e2]; unfold dj; rw [decide_eq_true z, cond_true]; rfl]
      exact ⟨k + 1, by omega, by omega, ⟨⟨rfl, rfl⟩, zF, zB, zN, zX⟩⟩)
   | (have z : ¬ du b x = (i : Int) := hno
      rw [show cd (p.pages.take k) (cz b (i : Int)) = cd (p.pages.take (k + 1)) (cz b (i : Int)) by rw [e1]; unfold cz; rw [decide_eq_false z]; rfl, show cd (p.pages.take k) (dj p.text b (i : Int)) = cd (p.pages.take (k + 1)) (dj p.text b (i : Int)) by rw [e2]; unfold dj; rw [decide_eq_false z]; rfl]
      exact ⟨k + 1, by omega, by omega, ⟨⟨rfl, rfl⟩, zF, zB, zN, zX⟩⟩)
  have hno : ¬ du b x = (i : Int) := of_decide_eq_false hc
  refine av ?_
  refine K7 _ ?_
  refine yR ?_
  refine aa rfl (bn rfl rfl rfl (by omega)) ?_
  refine yM rfl rfl ?_
  refine yN ?_
  dsimp only [St.put]
  have e1 := lz (g := cz b (i : Int)) hx
  have e2 := lz (g := dj p.text b (i : Int)) hx
  first
  | (have z : du b x = (i : Int) := hyes
     rw [show ((cd (p.pages.take k) (cz b (i : Int)) : Nat) : Int) + ((c7 b x).length : Int) = ((cd (p.pages.take (k + 1)) (cz b (i : Int)) : Nat) : Int) by rw [e1]; unfold cz; rw [decide_eq_true z, cond_true]; rfl, show ((cd (p.pages.take k) (dj p.text b (i : Int)) : Nat) : Int) + ((dg p.text x).length : Int) = ((cd (p.pages.take (k + 1)) (dj p.text b (i : Int)) : Nat) : Int) by rw [e2]; unfold dj; rw [decide_eq_true z, cond_true]; rfl]
     exact ⟨k + 1, by omega, by omega, ⟨⟨rfl, rfl⟩, zF, zB, zN, zX⟩⟩)
  | (have z : ¬ du b x = (i : Int) := hno
     rw [show cd (p.pages.take k) (cz b (i : Int)) = cd (p.pages.take (k + 1)) (cz b (i : Int)) by rw [e1]; unfold cz; rw [decide_eq_false z]; rfl, show cd (p.pages.take k) (dj p.text b (i : Int)) = cd (p.pages.take (k + 1)) (dj p.text b (i : Int)) by rw [e2]; unfold dj; rw [decide_eq_false z]; rfl]
     exact ⟨k + 1, by omega, by omega, ⟨⟨rfl, rfl⟩, zF, zB, zN, zX⟩⟩)
 replace hc := of_decide_eq_false hc
 obtain rfl : k = p.pages.length := by omega
 rw [ga (Nat.le_refl p.pages.length)]
 refine co ?_
 refine K3 _ ?_
 refine yS fun _ K11 => ?_
 refine f9 [(0, none), (1, none), (2, none), (3, none), (4, none), (5, none), (6, none), (7, none), (9, none), (8, none), (10, none), (11, none), (12, none), (13, none), (14, none), (15, none)] (fun i => [8, 12].contains i) (fun i => [8, 12].contains i) (fun i => [0, 1, 2, 4, 5, 6, 9, 10, 11, 13, 14, 15].contains i) [] (by kernel_rfl) (by kernel_rfl) ?_
 refine xM rfl rfl rfl rfl rfl ?_
 refine ah rfl rfl rfl rfl (tn rfl rfl rfl (by omega)) ?_
 refine ah rfl rfl rfl rfl (ca rfl rfl rfl) ?_
 try dsimp only [St.put]
 refine ax rfl rfl rfl rfl (bv rfl rfl) ?_
 refine xM rfl rfl rfl rfl rfl ?_
 refine ah rfl rfl rfl rfl (kr rfl rfl) ?_
 refine ah rfl rfl rfl rfl (ca rfl rfl rfl) ?_
 try dsimp only [St.put]
 refine ax rfl rfl rfl rfl (c := val p) (i3 (cs := j4 p) rfl rfl (show 4 ≤ 7 by decide)) ?_
 refine xM rfl rfl rfl rfl rfl ?_
 refine ip ?_
 try dsimp only [St.put]
 refine gl rfl rfl rfl rfl (ay rfl rfl rfl (o7 b p) ?_)
 try dsimp only [St.put]
 refine dw rfl rfl rfl rfl (bk rfl rfl rfl rfl (bj (by assumption)) (Enc.len _)) ?_
 refine dw rfl rfl rfl rfl (ca rfl rfl rfl) ?_
 try dsimp only [St.put]
 refine gl rfl rfl rfl rfl (SStep.e' (D := fun _ => True) (bv rfl rfl) ?_)
 refine dw rfl rfl rfl rfl (gn rfl rfl rfl (by omega)) ?_
 refine dw rfl rfl rfl rfl (tm rfl rfl rfl (by omega) (by omega)) ?_
 refine dw rfl rfl rfl rfl (fb rfl (by constructor)) ?_
 refine io ?_
 dsimp only [St.put]
 rw [show (100 * ((cd p.pages (cz b (i : Int)) : Nat) : Int)) / (100 - r.miss) = jm p b i by unfold jm; rw [hmr]]
 have hbd := wz h b i
 refine K11 _ ?_
 refine yS fun _ K12 => ?_
 refine yR ?_
 refine yM rfl rfl ?_
 refine yM rfl rfl ?_
 refine yM rfl rfl ?_
 refine aa rfl (gn rfl rfl rfl (by omega)) ?_
 refine yA rfl rfl ?_
 refine yA rfl rfl ?_
 refine yN ?_
 dsimp only [St.put]
 refine K12 _ ?_
 refine ar ?_
 refine jk rfl (by constructor) (by constructor) zN zS ?_ ?_
 ·rfl
 exact vi (by unfold k6; rfl)
end Go.Proofs.YtbbdginipiljdaaGreatDoor
namespace Go.AB
open Go Go.RowKit
open Go.AB.Enc (cells)
open Go.PB (aw ai PlaceD bc bf bd bl am af ck bi cy c6)
theorem ui8 {p : af} (h : eb p) {j : Nat} {x : am} (hx : p.pages[j]? = some x) {k : Nat} (hk : k < (dh p x).length) : ∃ zn : Nat, (dh p x)[k]? = some (zn : Int) ∧ zn ≤ 6 := by
 have hp := pageB_true.1 (h.page j x hx)
 have h1 := hp.fst
 have h2 := hp.snd
 have h3 := h.nf
 have h4 := h.ns
 obtain ⟨z, hz⟩ : ∃ z, (dh p x)[k]? = some z := ⟨_, List.getElem?_eq_getElem hk⟩
 have hm := List.mem_of_getElem? hz
 have hb : 0 ≤ z ∧ z ≤ 6 := by
  unfold dh at hm
  rw [List.mem_append] at hm
  rcases hm with hm | hm
  ·by_cases q : 0 ≤ x.fst
   ·rw [decide_eq_true q, cond_true, List.mem_singleton] at hm; omega
   rw [decide_eq_false q] at hm; cases hm
  by_cases q : 0 ≤ x.snd
  ·rw [decide_eq_true q, cond_true, List.mem_singleton] at hm; omega
  rw [decide_eq_false q] at hm; cases hm
 exact ⟨z.toNat, by rw [hz]; congr 1; omega, by omega⟩
theorem x6 (p : af) (x : am) : (dh p x).length ≤ 2 := by
 unfold dh
 rw [List.length_append]
 cases decide (0 ≤ x.fst) <;> cases decide (0 ≤ x.snd) <;> simp
end Go.AB
namespace Go.Proofs.YtbbdginipiljdaaGreatDoor
set_option maxRecDepth 10000
open Go.RowKit Go.AB
open Go.AB.Enc (cells)
open Go.PB (aw ai PlaceD bc bf bd bl am af ck bi cy c6)
end Go.Proofs.YtbbdginipiljdaaGreatDoor
namespace Go.Proofs.YtbbdginipiljdaaGreatDoor
set_option maxRecDepth 10000
open Go.RowKit Go.AB
open Go.AB.Enc (cells)
open Go.PB (aw ai PlaceD bc bf bd bl am af ck bi cy c6)
end Go.Proofs.YtbbdginipiljdaaGreatDoor
namespace Go.AB
open Go Go.RowKit
open Go.AB.Enc (cells)
open Go.PB (aw ai PlaceD bc bf bd)
theorem lt3 {a b c a' b' c' : Int} : ey [a, b, c] [a', b', c'] < 0 ↔ a < a' ∨ a = a' ∧ (b < b' ∨ b = b' ∧ c < c') := by
 rw [nd (a := [a, b, c]) (b := [a', b', c']) rfl]; simp [ltW]
end Go.AB
namespace Go.Proofs.YtbbdginipiljdaaGreatDoor
set_option maxRecDepth 10000
open Go.RowKit Go.AB
open Go.AB.Enc (cells)
open Go.PB (aw ai PlaceD bc bf bd)
theorem ugb (a b : PlaceD) : Pure Tryz.prog 121 [val a, val b] (.v (.bool (decide (ey (ct a) (ct b) < 0)))) := by
 refine cn Tryz.func121 rfl (fun m => .v) fun G nx => ?_
 simp only [Tryz.ntmps121, List.length_cons, List.length_nil, Nat.reduceAdd, Nat.reduceSub]
 refine bq fun hlt => ?_
 dsimp only at hlt
 refine yS fun _ K1 => ?_
 refine yR ?_
 try dsimp only [St.put]
 refine yB rfl rfl rfl ?_
 try dsimp only [St.put]
 refine yB rfl rfl rfl ?_
 refine yA rfl rfl ?_
 refine yN ?_
 dsimp only [St.put]
 refine K1 _ ?_
 refine yS fun _ K2 => ?_
 refine yS fun _ K3 => ?_
 refine yR ?_
 refine yF rfl rfl rfl rfl ?_
 refine yL rfl rfl rfl ?_
 refine yF rfl rfl rfl rfl ?_
 refine yL rfl rfl rfl ?_
 refine aa rfl (eh rfl rfl rfl) ?_
 refine yN ?_
 dsimp only [St.put]
 refine K3 _ ?_
 refine aq rfl (fun hc => ?_) (fun hc => ?_)
 ·have h1 : a.ch ≠ b.ch := ji hc
  refine yS fun _ K4 => ?_
  refine yR ?_
  refine yF rfl rfl rfl rfl ?_
  refine yL rfl rfl rfl ?_
  refine yF rfl rfl rfl rfl ?_
  refine yL rfl rfl rfl ?_
  refine aa rfl (ce rfl rfl rfl) ?_
  refine yA rfl rfl ?_
  refine yN ?_
  dsimp only [St.put]
  refine K4 _ ?_
  refine ar ?_
  refine az rfl (by constructor) zN zS ?_
  exact vb (by rw [decide_eq_decide, ct, ct, lt3]; omega)
 have h1 : a.ch = b.ch := g3 hc
 refine av ?_
 refine K2 _ ?_
 refine yS fun _ K5 => ?_
 refine yS fun _ K6 => ?_
 refine yR ?_
 refine yF rfl rfl rfl rfl ?_
 refine yL rfl rfl rfl ?_
 refine yF rfl rfl rfl rfl ?_
 refine yL rfl rfl rfl ?_
 refine aa rfl (eh rfl rfl rfl) ?_
 refine yN ?_
 dsimp only [St.put]
 refine K6 _ ?_
 refine aq rfl (fun hc => ?_) (fun hc => ?_)
 ·have h2 : a.ln ≠ b.ln := ji hc
  refine yS fun _ K7 => ?_
  refine yR ?_
  refine yF rfl rfl rfl rfl ?_
  refine yL rfl rfl rfl ?_
  refine yF rfl rfl rfl rfl ?_
  refine yL rfl rfl rfl ?_
  refine aa rfl (ce rfl rfl rfl) ?_
  refine yA rfl rfl ?_
  refine yN ?_
  dsimp only [St.put]
  refine K7 _ ?_
  refine ar ?_
  refine az rfl (by constructor) zN zS ?_
  exact vb (by rw [decide_eq_decide, ct, ct, lt3]; omega)
 have h2 : a.ln = b.ln := g3 hc
 refine av ?_
 refine K5 _ ?_
 refine yS fun _ K8 => ?_
 refine yR ?_
 refine yF rfl rfl rfl rfl ?_
 refine yL rfl rfl rfl ?_
 refine yF rfl rfl rfl rfl ?_
 refine yL rfl rfl rfl ?_
 refine aa rfl (ce rfl rfl rfl) ?_
 refine yA rfl rfl ?_
 refine yN ?_
 dsimp only [St.put]
 refine K8 _ ?_
 refine ar ?_
 refine az rfl (by constructor) zN zS ?_
 exact vb (by rw [decide_eq_decide, ct, ct, lt3]; omega)
end Go.Proofs.YtbbdginipiljdaaGreatDoor
namespace Go.Proofs.YtbbdginipiljdaaGreatDoor
set_option maxRecDepth 10000
open Go.RowKit Go.AB
open Go.AB.Enc (cells)
open Go.PB (aw ai PlaceD bc bf bd bl am af ck bi cy c6)
set_option maxHeartbeats 1000000 in
theorem ub0 (t : ai) (x : am) (r : Int) (l : List PlaceD) (ht : dc t = true) : Pure Tryz.prog 108 [gy t, val x, .v (.int .i64 r), lst l] (.v (.bool (gt t x r l))) := by
 refine cn Tryz.func108 rfl (fun m => .v) fun G nx => ?_
 simp only [Tryz.ntmps108, List.length_cons, List.length_nil, Nat.reduceAdd, Nat.reduceSub]
 refine bq fun hlt => ?_
 dsimp only at hlt
 refine ld 3 (fun hfl => ?_)
 have hl0 := (fit_lst.1 hfl).1
 refine yS fun _ K1 => ?_
 refine yR ?_
 try dsimp only [St.put]
 refine yB rfl rfl rfl ?_
 try dsimp only [St.put]
 refine yB rfl rfl rfl ?_
 refine yA rfl rfl ?_
 refine yN ?_
 dsimp only [St.put]
 refine K1 _ ?_
 refine yS fun _ K2 => ?_
 refine yS fun _ K3 => ?_
 refine yR ?_
 refine yM rfl rfl ?_
 refine aa rfl (ce rfl rfl rfl) ?_
 refine ef (fun hs => ?_) (fun hs => ?_)
 ·have s1 : r < 0 := of_decide_eq_true hs
  refine yM rfl rfl ?_
  refine yM rfl rfl ?_
  refine aa rfl (bg rfl rfl (List.length_map _)) ?_
  refine aa rfl (g4 rfl rfl rfl) ?_
  refine aa rfl (br rfl rfl (by constructor)) ?_
  refine yN ?_
  dsimp only [St.put]
  refine K3 _ ?_
  refine aq rfl (fun hc => ?_) (fun hc => ?_)
  ·have s2 : 0 < l.length := by
    have := of_decide_eq_true hc
    omega
   refine yS fun _ K4 => ?_
   refine yR ?_
   refine yA rfl rfl ?_
   refine yN ?_
   dsimp only [St.put]
   refine K4 _ ?_
   refine ar ?_
   refine az rfl (by constructor) zN zS ?_
   exact vb (by
    have e1 : ¬ 0 ≤ r := by omega
    have e2 : l ≠ [] := fun e => by rw [e] at s2; exact absurd s2 (by simp)
    simp [gt, e1, e2])
  have s3 : (decide (0 ≤ r) || decide (l = [])) = true := by
   first
   | (rw [decide_eq_true (show 0 ≤ r by omega)]; rfl)
   | (have := of_decide_eq_false hc
      have : l = [] := List.eq_nil_of_length_eq_zero (by omega)
      simp [this])
  refine av ?_
  refine K2 _ ?_
  refine yS fun _ K5 => ?_
  refine yS fun _ K6 => ?_
  refine yR ?_
  refine yA rfl rfl ?_
  refine yN ?_
  dsimp only [St.put]
  refine K6 _ ?_
  refine ba ?_
  refine cc 10 ?_
  refine zQ ?_
  refine cr (G) zX ?_
  dsimp only
  refine cv (X := Nat) (fun i => i ≤ l.length ∧ dl t x l i = true) (fun i => l.length - i) (fun i => [(9, .v (.int .i64 (i : Int)))]) (fun i G' => G') 0 rfl ?_ ?_ (fun _ _ h => h) ?_ ?_ ?_
  ·exact ⟨Nat.zero_le _, rfl⟩
  ·exact zF
  ·rintro i hI
   exact zL
  ·exact fun _ _ _ _ h => .inl h
  rintro i hI
  dsimp only at hI ⊢
  refine yS fun _ K7 => ?_
  refine yS fun _ K8 => ?_
  refine yR ?_
  refine yM rfl rfl ?_
  refine yM rfl rfl ?_
  refine aa rfl (bg rfl rfl (List.length_map _)) ?_
  refine aa rfl (ce rfl rfl rfl) ?_
  refine yN ?_
  dsimp only [St.put]
  refine K8 _ ?_
  refine aq rfl (fun hc => ?_) (fun hc => ?_)
  ·replace hc := of_decide_eq_true hc
   obtain ⟨q, hq⟩ : ∃ q, l[i]? = some q := cw (by omega)
   refine av ?_
   refine K7 _ ?_
   refine yS fun _ K9 => ?_
   refine ba ?_
   refine cc 10 ?_
   refine zQ ?_
   refine j0 (X := Bool) (fun d => jc t x l i = !d) (fun d => [(60, .v (.bool d))]) (fun d G' => G') rfl ?_ (fun _ _ _ _ h => .inl h) ?_ ?_
   ·rintro d hI
    exact zL
   ·refine qn [(0, none), (1, none), (2, none), (3, none), (4, none)] (fun _ => false) (fun i => [1, 2, 3].contains i) 33 (rl [5, 33]) (by kernel_rfl) (by kernel_rfl) ?_
    try dsimp only [St.put]
    refine ax rfl rfl rfl rfl (d8 rfl rfl rfl) ?_
    refine xM rfl rfl rfl rfl rfl ?_
    refine xM rfl rfl rfl rfl rfl ?_
    try dsimp only [St.put]
    refine ah rfl rfl rfl rfl (bk rfl rfl rfl rfl (bj (by assumption)) (Enc.len _)) ?_
    try dsimp only [St.put]
    refine ax rfl rfl rfl rfl (d8 rfl rfl (Enc.len _)) ?_
    refine cg ?_
    refine dq [5] (by kernel_rfl) (by simp) ?_
    refine dp ?_ ?_
    ·try dsimp only [St.put]
     refine ig rfl rfl rfl (ay rfl rfl rfl (uf7 t q ht) ?_)
     refine eg [(6, none), (7, none), (8, none), (9, none), (10, none), (11, none), (12, none), (14, none), (15, none), (16, none), (17, none)] (fun i => [6, 7, 9, 10, 11, 14, 16].contains i) 21 (rl [13, 1, 4, 20]) (by kernel_rfl) ?_
     refine ah rfl rfl rfl rfl (dd rfl rfl) ?_
     refine jn (fun hs => ?_) (fun hs => ?_)
     ·have s4 := hs
      refine xM rfl rfl rfl rfl rfl ?_
      refine aj rfl rfl rfl ?_
      refine aj rfl rfl rfl ?_
      refine aj rfl rfl rfl ?_
      refine aj rfl rfl rfl ?_
      refine aj rfl rfl rfl ?_
      refine aj rfl rfl rfl ?_
      refine aj rfl rfl rfl ?_
      refine aj rfl rfl rfl ?_
      refine aj rfl rfl rfl ?_
      refine cg ?_
      refine dq [13] (by kernel_rfl) (by simp) ?_
      refine dp ?_ ?_
      ·refine fw rfl rfl rfl ?_
       refine dq [18] (by kernel_rfl) (by simp) ?_
       refine dp ?_ ?_
       ·refine fw rfl rfl rfl ?_
        refine eg [(19, none), (20, none), (21, none), (22, none), (23, none), (24, none), (25, none), (26, none), (27, none), (28, none), (29, none), (30, none), (31, none), (32, none), (33, none)] (fun i => [19, 20, 21, 22, 23, 24, 25, 26, 27, 28, 30, 31, 32].contains i) 4 (rl [34, 4]) (by kernel_rfl) ?_
        refine aj rfl rfl rfl ?_
        refine ah rfl rfl rfl rfl (br rfl rfl (by constructor)) ?_
        refine xM rfl rfl rfl rfl rfl ?_
        refine aj rfl rfl rfl ?_
        refine aj rfl rfl rfl ?_
        refine aj rfl rfl rfl ?_
        refine aj rfl rfl rfl ?_
        refine aj rfl rfl rfl ?_
        refine aj rfl rfl rfl ?_
        refine aj rfl rfl rfl ?_
        refine aj rfl rfl rfl ?_
        refine aj rfl rfl rfl ?_
        refine aj rfl rfl rfl ?_
        refine aj rfl rfl rfl ?_
        refine aj rfl rfl rfl ?_
        refine cg ?_
        refine dq [34] (by kernel_rfl) (by simp) ?_
        refine dp ?_ ?_
        ·refine fw rfl rfl rfl ?_
         refine eg [(35, none), (36, none), (37, none)] (fun i => [35, 36, 37].contains i) 0 (rl [38]) (by kernel_rfl) ?_
         refine aj rfl rfl rfl ?_
         refine aj rfl rfl rfl ?_
         refine ah rfl rfl rfl rfl (br rfl rfl (by constructor)) ?_
         refine cg ?_
         dsimp only [St.put]
         refine g8 (by kernel_rfl) ?_
         refine ⟨_, ?_, ⟨⟨rfl, rfl⟩, zF, zB, zN, zX⟩⟩
         simp_all [jc, fe, mh]
         try (intro h0; omega)
        exact dn
       exact dn
      exact dn
     have hqp : fg t q = true := by simpa using hs
     refine xM rfl rfl rfl rfl rfl ?_
     try dsimp only [St.put]
     refine ax rfl rfl rfl rfl (d8 rfl rfl rfl) ?_
     refine xM rfl rfl rfl rfl rfl ?_
     refine xM rfl rfl rfl rfl rfl ?_
     try dsimp only [St.put]
     refine ah rfl rfl rfl rfl (bk rfl rfl rfl rfl (bj (by assumption)) (Enc.len _)) ?_
     try dsimp only [St.put]
     refine ax rfl rfl rfl rfl (d8 rfl rfl (Enc.len _)) ?_
     refine ah rfl rfl rfl rfl (ca rfl rfl rfl) ?_
     try dsimp only [St.put]
     refine ax rfl rfl rfl rfl (bv rfl rfl) ?_
     refine ah rfl rfl rfl rfl (ca rfl rfl rfl) ?_
     try dsimp only [St.put]
     refine ax rfl rfl rfl rfl (bv rfl rfl) ?_
     refine cg ?_
     refine dq [13] (by kernel_rfl) (by simp) ?_
     refine dp ?_ ?_
     ·try dsimp only [St.put]
      refine ig rfl rfl rfl (ay rfl rfl rfl (x8 t q ht hqp) ?_)
      refine dq [18] (by kernel_rfl) (by simp) ?_
      refine dp ?_ ?_
      ·try dsimp only [St.put]
       refine ig rfl rfl rfl (ay rfl rfl rfl (pa _ _ _) ?_)
       refine eg [(19, none), (20, none), (21, none), (22, none), (23, none), (24, none), (25, none), (26, none), (27, none), (28, none), (29, none), (30, none), (31, none), (32, none), (33, none)] (fun i => [19, 20, 21, 22, 23, 24, 25, 26, 27, 28, 30, 31, 32].contains i) 4 (rl [34, 4]) (by kernel_rfl) ?_
       refine ah rfl rfl rfl rfl (dd rfl rfl) ?_
       refine jn (fun hs => ?_) (fun hs => ?_)
       ·have s5 := hs
        refine ah rfl rfl rfl rfl (cb rfl rfl (by constructor)) ?_
        refine xM rfl rfl rfl rfl rfl ?_
        refine aj rfl rfl rfl ?_
        refine aj rfl rfl rfl ?_
        refine aj rfl rfl rfl ?_
        refine aj rfl rfl rfl ?_
        refine aj rfl rfl rfl ?_
        refine aj rfl rfl rfl ?_
        refine aj rfl rfl rfl ?_
        refine aj rfl rfl rfl ?_
        refine aj rfl rfl rfl ?_
        refine aj rfl rfl rfl ?_
        refine aj rfl rfl rfl ?_
        refine aj rfl rfl rfl ?_
        refine cg ?_
        refine dq [34] (by kernel_rfl) (by simp) ?_
        refine dp ?_ ?_
        ·refine fw rfl rfl rfl ?_
         refine eg [(35, none), (36, none), (37, none)] (fun i => [35, 36, 37].contains i) 0 (rl [38]) (by kernel_rfl) ?_
         refine aj rfl rfl rfl ?_
         refine aj rfl rfl rfl ?_
         refine ah rfl rfl rfl rfl (br rfl rfl (by constructor)) ?_
         refine cg ?_
         dsimp only [St.put]
         refine g8 (by kernel_rfl) ?_
         refine ⟨_, ?_, ⟨⟨rfl, rfl⟩, zF, zB, zN, zX⟩⟩
         simp_all [jc, fe, mh]
         try (intro h0; omega)
        exact dn
       have s5 := hs
       refine ah rfl rfl rfl rfl (cb rfl rfl (by constructor)) ?_
       refine xM rfl rfl rfl rfl rfl ?_
       refine xM rfl rfl rfl rfl rfl ?_
       refine ah rfl rfl rfl rfl (g4 rfl rfl rfl) ?_
       refine jn (fun hs => ?_) (fun hs => ?_)
       ·have s6 : 0 < i := by
         have := of_decide_eq_true hs
         omega
        obtain ⟨q0, hq0⟩ : ∃ q0, l[i - 1]? = some q0 := cw (by omega)
        refine xM rfl rfl rfl rfl rfl ?_
        refine xM rfl rfl rfl rfl rfl ?_
        refine xM rfl rfl rfl rfl rfl ?_
        refine ah rfl rfl rfl rfl (gn rfl rfl rfl (by omega)) ?_
        try dsimp only [St.put]
        refine ah rfl rfl rfl rfl (bk (k := i - 1) rfl rfl rfl (by omega) (bj hq0) (Enc.len _)) ?_
        try dsimp only [St.put]
        refine ax rfl rfl rfl rfl (d8 rfl rfl (Enc.len _)) ?_
        refine xM rfl rfl rfl rfl rfl ?_
        refine xM rfl rfl rfl rfl rfl ?_
        try dsimp only [St.put]
        refine ah rfl rfl rfl rfl (bk rfl rfl rfl rfl (bj (by assumption)) (Enc.len _)) ?_
        try dsimp only [St.put]
        refine ax rfl rfl rfl rfl (d8 rfl rfl (Enc.len _)) ?_
        refine cg ?_
        refine dq [34] (by kernel_rfl) (by simp) ?_
        refine dp ?_ ?_
        ·try dsimp only [St.put]
         refine ig rfl rfl rfl (ay rfl rfl rfl (ugb q0 q) ?_)
         refine eg [(35, none), (36, none), (37, none)] (fun i => [35, 36, 37].contains i) 0 (rl [38]) (by kernel_rfl) ?_
         refine ah rfl rfl rfl rfl (dd rfl rfl) ?_
         refine ah rfl rfl rfl rfl (br rfl rfl (by constructor)) ?_
         refine ah rfl rfl rfl rfl (cb rfl rfl (by constructor)) ?_
         refine cg ?_
         dsimp only [St.put]
         refine g8 (by kernel_rfl) ?_
         refine ⟨_, ?_, ⟨⟨rfl, rfl⟩, zF, zB, zN, zX⟩⟩
         simp_all [jc, fe, mh]
         try (intro h0; omega)
        exact dn
       have s6 : i = 0 := by
        have := of_decide_eq_false hs
        omega
       refine xM rfl rfl rfl rfl rfl ?_
       refine aj rfl rfl rfl ?_
       refine aj rfl rfl rfl ?_
       refine aj rfl rfl rfl ?_
       refine aj rfl rfl rfl ?_
       refine aj rfl rfl rfl ?_
       refine aj rfl rfl rfl ?_
       refine aj rfl rfl rfl ?_
       refine aj rfl rfl rfl ?_
       refine aj rfl rfl rfl ?_
       refine cg ?_
       refine dq [34] (by kernel_rfl) (by simp) ?_
       refine dp ?_ ?_
       ·refine fw rfl rfl rfl ?_
        refine eg [(35, none), (36, none), (37, none)] (fun i => [35, 36, 37].contains i) 0 (rl [38]) (by kernel_rfl) ?_
        refine aj rfl rfl rfl ?_
        refine ah rfl rfl rfl rfl (cb rfl rfl (by constructor)) ?_
        refine ah rfl rfl rfl rfl (cb rfl rfl (by constructor)) ?_
        refine cg ?_
        dsimp only [St.put]
        refine g8 (by kernel_rfl) ?_
        refine ⟨_, ?_, ⟨⟨rfl, rfl⟩, zF, zB, zN, zX⟩⟩
        simp_all [jc, fe, mh]
        try (intro h0; omega)
       exact dn
      exact dn
     exact dn
    exact dn
   rintro d hst
   dsimp only at hst ⊢
   refine aq rfl (fun hc => ?_) (fun hc => ?_)
   ·skip
    refine yS fun _ K11 => ?_
    refine yR ?_
    refine yA rfl rfl ?_
    refine yN ?_
    dsimp only [St.put]
    refine K11 _ ?_
    refine ar ?_
    refine az rfl (by constructor) zN zS ?_
    exact vb (by
     have e : jc t x l i = false := by rw [hst, hc]; rfl
     have : dl t x l l.length = false := by
      refine List.all_eq_false.2 ⟨i, List.mem_range.2 (by omega), by rw [e]; simp⟩
     simp [gt, this])
   skip
   refine av ?_
   refine K9 _ ?_
   refine yR ?_
   refine yM rfl rfl ?_
   refine aa rfl (bn rfl rfl rfl (by omega)) ?_
   refine yA rfl rfl ?_
   refine yN ?_
   dsimp only [St.put]
   exact ⟨i + 1, by omega, ⟨by omega, by rw [gp, hI.2, hst, hc]; rfl⟩, ⟨⟨rfl, rfl⟩, zF, zB, zN, zX⟩⟩
  replace hc := of_decide_eq_false hc
  obtain rfl : i = l.length := by omega
  refine co ?_
  refine K5 _ ?_
  refine yS fun _ K12 => ?_
  refine yR ?_
  refine yA rfl rfl ?_
  refine yN ?_
  dsimp only [St.put]
  refine K12 _ ?_
  refine ar ?_
  refine az rfl (by constructor) zN zS ?_
  exact vb (by
   unfold gt
   rw [hI.2, Bool.and_true]
   first
   | exact s3.symm
   | (have e1 : 0 ≤ r := by omega
      simp [e1]))
 have s1 : ¬ r < 0 := of_decide_eq_false hs
 refine yM rfl rfl ?_
 refine yK rfl ?_
 refine yK rfl ?_
 refine yK rfl ?_
 refine aa rfl (cb rfl rfl (by constructor)) ?_
 refine yN ?_
 dsimp only [St.put]
 refine K3 _ ?_
 refine aq rfl (fun h => by cases h) (fun _ => ?_)
 have s3 : (decide (0 ≤ r) || decide (l = [])) = true := by
  first
  | (rw [decide_eq_true (show 0 ≤ r by omega)]; rfl)
  | (have := of_decide_eq_false hc
     have : l = [] := List.eq_nil_of_length_eq_zero (by omega)
     simp [this])
 refine av ?_
 refine K2 _ ?_
 refine yS fun _ K13 => ?_
 refine yS fun _ K14 => ?_
 refine yR ?_
 refine yA rfl rfl ?_
 refine yN ?_
 dsimp only [St.put]
 refine K14 _ ?_
 refine ba ?_
 refine cc 10 ?_
 refine zQ ?_
 refine cr (G) zX ?_
 dsimp only
 refine cv (X := Nat) (fun i => i ≤ l.length ∧ dl t x l i = true) (fun i => l.length - i) (fun i => [(9, .v (.int .i64 (i : Int)))]) (fun i G' => G') 0 rfl ?_ ?_ (fun _ _ h => h) ?_ ?_ ?_
 ·exact ⟨Nat.zero_le _, rfl⟩
 ·exact zF
 ·rintro i hI
  exact zL
 ·exact fun _ _ _ _ h => .inl h
 rintro i hI
 dsimp only at hI ⊢
 refine yS fun _ K15 => ?_
 refine yS fun _ K16 => ?_
 refine yR ?_
 refine yM rfl rfl ?_
 refine yM rfl rfl ?_
 refine aa rfl (bg rfl rfl (List.length_map _)) ?_
 refine aa rfl (ce rfl rfl rfl) ?_
 refine yN ?_
 dsimp only [St.put]
 refine K16 _ ?_
 refine aq rfl (fun hc => ?_) (fun hc => ?_)
 ·replace hc := of_decide_eq_true hc
  obtain ⟨q, hq⟩ : ∃ q, l[i]? = some q := cw (by omega)
  refine av ?_
  refine K15 _ ?_
  refine yS fun _ K17 => ?_
  refine ba ?_
  refine cc 10 ?_
  refine zQ ?_
  refine j0 (X := Bool) (fun d => jc t x l i = !d) (fun d => [(60, .v (.bool d))]) (fun d G' => G') rfl ?_ (fun _ _ _ _ h => .inl h) ?_ ?_
  ·rintro d hI
   exact zL
  ·refine qn [(0, none), (1, none), (2, none), (3, none), (4, none)] (fun _ => false) (fun i => [1, 2, 3].contains i) 33 (rl [5, 33]) (by kernel_rfl) (by kernel_rfl) ?_
   try dsimp only [St.put]
   refine ax rfl rfl rfl rfl (d8 rfl rfl rfl) ?_
   refine xM rfl rfl rfl rfl rfl ?_
   refine xM rfl rfl rfl rfl rfl ?_
   try dsimp only [St.put]
   refine ah rfl rfl rfl rfl (bk rfl rfl rfl rfl (bj (by assumption)) (Enc.len _)) ?_
   try dsimp only [St.put]
   refine ax rfl rfl rfl rfl (d8 rfl rfl (Enc.len _)) ?_
   refine cg ?_
   refine dq [5] (by kernel_rfl) (by simp) ?_
   refine dp ?_ ?_
   ·try dsimp only [St.put]
    refine ig rfl rfl rfl (ay rfl rfl rfl (uf7 t q ht) ?_)
    refine eg [(6, none), (7, none), (8, none), (9, none), (10, none), (11, none), (12, none), (14, none), (15, none), (16, none), (17, none)] (fun i => [6, 7, 9, 10, 11, 14, 16].contains i) 21 (rl [13, 1, 4, 20]) (by kernel_rfl) ?_
    refine ah rfl rfl rfl rfl (dd rfl rfl) ?_
    refine jn (fun hs => ?_) (fun hs => ?_)
    ·have s4 := hs
     refine xM rfl rfl rfl rfl rfl ?_
     refine aj rfl rfl rfl ?_
     refine aj rfl rfl rfl ?_
     refine aj rfl rfl rfl ?_
     refine aj rfl rfl rfl ?_
     refine aj rfl rfl rfl ?_
     refine aj rfl rfl rfl ?_
     refine aj rfl rfl rfl ?_
     refine aj rfl rfl rfl ?_
     refine aj rfl rfl rfl ?_
     refine cg ?_
     refine dq [13] (by kernel_rfl) (by simp) ?_
     refine dp ?_ ?_
     ·refine fw rfl rfl rfl ?_
      refine dq [18] (by kernel_rfl) (by simp) ?_
      refine dp ?_ ?_
      ·refine fw rfl rfl rfl ?_
       refine eg [(19, none), (20, none), (21, none), (22, none), (23, none), (24, none), (25, none), (26, none), (27, none), (28, none), (29, none), (30, none), (31, none), (32, none), (33, none)] (fun i => [19, 20, 21, 22, 23, 24, 25, 26, 27, 28, 30, 31, 32].contains i) 4 (rl [34, 4]) (by kernel_rfl) ?_
       refine aj rfl rfl rfl ?_
       refine ah rfl rfl rfl rfl (br rfl rfl (by constructor)) ?_
       refine xM rfl rfl rfl rfl rfl ?_
       refine aj rfl rfl rfl ?_
       refine aj rfl rfl rfl ?_
       refine aj rfl rfl rfl ?_
       refine aj rfl rfl rfl ?_
       refine aj rfl rfl rfl ?_
       refine aj rfl rfl rfl ?_
       refine aj rfl rfl rfl ?_
       refine aj rfl rfl rfl ?_
       refine aj rfl rfl rfl ?_
       refine aj rfl rfl rfl ?_
       refine aj rfl rfl rfl ?_
       refine aj rfl rfl rfl ?_
       refine cg ?_
       refine dq [34] (by kernel_rfl) (by simp) ?_
       refine dp ?_ ?_
       ·refine fw rfl rfl rfl ?_
        refine eg [(35, none), (36, none), (37, none)] (fun i => [35, 36, 37].contains i) 0 (rl [38]) (by kernel_rfl) ?_
        refine aj rfl rfl rfl ?_
        refine aj rfl rfl rfl ?_
        refine ah rfl rfl rfl rfl (br rfl rfl (by constructor)) ?_
        refine cg ?_
        dsimp only [St.put]
        refine g8 (by kernel_rfl) ?_
        refine ⟨_, ?_, ⟨⟨rfl, rfl⟩, zF, zB, zN, zX⟩⟩
        simp_all [jc, fe, mh]
        try (intro h0; omega)
       exact dn
      exact dn
     exact dn
    have hqp : fg t q = true := by simpa using hs
    refine xM rfl rfl rfl rfl rfl ?_
    try dsimp only [St.put]
    refine ax rfl rfl rfl rfl (d8 rfl rfl rfl) ?_
    refine xM rfl rfl rfl rfl rfl ?_
    refine xM rfl rfl rfl rfl rfl ?_
    try dsimp only [St.put]
    refine ah rfl rfl rfl rfl (bk rfl rfl rfl rfl (bj (by assumption)) (Enc.len _)) ?_
    try dsimp only [St.put]
    refine ax rfl rfl rfl rfl (d8 rfl rfl (Enc.len _)) ?_
    refine ah rfl rfl rfl rfl (ca rfl rfl rfl) ?_
    try dsimp only [St.put]
    refine ax rfl rfl rfl rfl (bv rfl rfl) ?_
    refine ah rfl rfl rfl rfl (ca rfl rfl rfl) ?_
    try dsimp only [St.put]
    refine ax rfl rfl rfl rfl (bv rfl rfl) ?_
    refine cg ?_
    refine dq [13] (by kernel_rfl) (by simp) ?_
    refine dp ?_ ?_
    ·try dsimp only [St.put]
     refine ig rfl rfl rfl (ay rfl rfl rfl (x8 t q ht hqp) ?_)
     refine dq [18] (by kernel_rfl) (by simp) ?_
     refine dp ?_ ?_
     ·try dsimp only [St.put]
      refine ig rfl rfl rfl (ay rfl rfl rfl (pa _ _ _) ?_)
      refine eg [(19, none), (20, none), (21, none), (22, none), (23, none), (24, none), (25, none), (26, none), (27, none), (28, none), (29, none), (30, none), (31, none), (32, none), (33, none)] (fun i => [19, 20, 21, 22, 23, 24, 25, 26, 27, 28, 30, 31, 32].contains i) 4 (rl [34, 4]) (by kernel_rfl) ?_
      refine ah rfl rfl rfl rfl (dd rfl rfl) ?_
      refine jn (fun hs => ?_) (fun hs => ?_)
      ·have s5 := hs
       refine ah rfl rfl rfl rfl (cb rfl rfl (by constructor)) ?_
       refine xM rfl rfl rfl rfl rfl ?_
       refine aj rfl rfl rfl ?_
       refine aj rfl rfl rfl ?_
       refine aj rfl rfl rfl ?_
       refine aj rfl rfl rfl ?_
       refine aj rfl rfl rfl ?_
       refine aj rfl rfl rfl ?_
       refine aj rfl rfl rfl ?_
       refine aj rfl rfl rfl ?_
       refine aj rfl rfl rfl ?_
       refine aj rfl rfl rfl ?_
       refine aj rfl rfl rfl ?_
       refine aj rfl rfl rfl ?_
       refine cg ?_
       refine dq [34] (by kernel_rfl) (by simp) ?_
       refine dp ?_ ?_
       ·refine fw rfl rfl rfl ?_
        refine eg [(35, none), (36, none), (37, none)] (fun i => [35, 36, 37].contains i) 0 (rl [38]) (by kernel_rfl) ?_
        refine aj rfl rfl rfl ?_
        refine aj rfl rfl rfl ?_
        refine ah rfl rfl rfl rfl (br rfl rfl (by constructor)) ?_
        refine cg ?_
        dsimp only [St.put]
        refine g8 (by kernel_rfl) ?_
        refine ⟨_, ?_, ⟨⟨rfl, rfl⟩, zF, zB, zN, zX⟩⟩
        simp_all [jc, fe, mh]
        try (intro h0; omega)
       exact dn
      have s5 := hs
      refine ah rfl rfl rfl rfl (cb rfl rfl (by constructor)) ?_
      refine xM rfl rfl rfl rfl rfl ?_
      refine xM rfl rfl rfl rfl rfl ?_
      refine ah rfl rfl rfl rfl (g4 rfl rfl rfl) ?_
      refine jn (fun hs => ?_) (fun hs => ?_)
      ·have s6 : 0 < i := by
        have := of_decide_eq_true hs
        omega
       obtain ⟨q0, hq0⟩ : ∃ q0, l[i - 1]? = some q0 := cw (by omega)
       refine xM rfl rfl rfl rfl rfl ?_
       refine xM rfl rfl rfl rfl rfl ?_
       refine xM rfl rfl rfl rfl rfl ?_
       refine ah rfl rfl rfl rfl (gn rfl rfl rfl (by omega)) ?_
       try dsimp only [St.put]
       refine ah rfl rfl rfl rfl (bk (k := i - 1) rfl rfl rfl (by omega) (bj hq0) (Enc.len _)) ?_
       try dsimp only [St.put]
       refine ax rfl rfl rfl rfl (d8 rfl rfl (Enc.len _)) ?_
       refine xM rfl rfl rfl rfl rfl ?_
       refine xM rfl rfl rfl rfl rfl ?_
       try dsimp only [St.put]
       refine ah rfl rfl rfl rfl (bk rfl rfl rfl rfl (bj (by assumption)) (Enc.len _)) ?_
       try dsimp only [St.put]
       refine ax rfl rfl rfl rfl (d8 rfl rfl (Enc.len _)) ?_
       refine cg ?_
       refine dq [34] (by kernel_rfl) (by simp) ?_
       refine dp ?_ ?_
       ·try dsimp only [St.put]
        refine ig rfl rfl rfl (ay rfl rfl rfl (ugb q0 q) ?_)
        refine eg [(35, none), (36, none), (37, none)] (fun i => [35, 36, 37].contains i) 0 (rl [38]) (by kernel_rfl) ?_
        refine ah rfl rfl rfl rfl (dd rfl rfl) ?_
        refine ah rfl rfl rfl rfl (br rfl rfl (by constructor)) ?_
        refine ah rfl rfl rfl rfl (cb rfl rfl (by constructor)) ?_
        refine cg ?_
        dsimp only [St.put]
        refine g8 (by kernel_rfl) ?_
        refine ⟨_, ?_, ⟨⟨rfl, rfl⟩, zF, zB, zN, zX⟩⟩
        simp_all [jc, fe, mh]
        try (intro h0; omega)
       exact dn
      have s6 : i = 0 := by
       have := of_decide_eq_false hs
       omega
      refine xM rfl rfl rfl rfl rfl ?_
      refine aj rfl rfl rfl ?_
      refine aj rfl rfl rfl ?_
      refine aj rfl rfl rfl ?_
      refine aj rfl rfl rfl ?_
      refine aj rfl rfl rfl ?_
      refine aj rfl rfl rfl ?_
      refine aj rfl rfl rfl ?_
      refine aj rfl rfl rfl ?_
      refine aj rfl rfl rfl ?_
      refine cg ?_
      refine dq [34] (by kernel_rfl) (by simp) ?_
      refine dp ?_ ?_
      ·refine fw rfl rfl rfl ?_
       refine eg [(35, none), (36, none), (37, none)] (fun i => [35, 36, 37].contains i) 0 (rl [38]) (by kernel_rfl) ?_
       refine aj rfl rfl rfl ?_
       refine ah rfl rfl rfl rfl (cb rfl rfl (by constructor)) ?_
       refine ah rfl rfl rfl rfl (cb rfl rfl (by constructor)) ?_
       refine cg ?_
       dsimp only [St.put]
       refine g8 (by kernel_rfl) ?_
       refine ⟨_, ?_, ⟨⟨rfl, rfl⟩, zF, zB, zN, zX⟩⟩
       simp_all [jc, fe, mh]
       try (intro h0; omega)
      exact dn
     exact dn
    exact dn
   exact dn
  rintro d hst
  dsimp only at hst ⊢
  refine aq rfl (fun hc => ?_) (fun hc => ?_)
  ·skip
   refine yS fun _ K19 => ?_
   refine yR ?_
   refine yA rfl rfl ?_
   refine yN ?_
   dsimp only [St.put]
   refine K19 _ ?_
   refine ar ?_
   refine az rfl (by constructor) zN zS ?_
   exact vb (by
    have e : jc t x l i = false := by rw [hst, hc]; rfl
    have : dl t x l l.length = false := by
     refine List.all_eq_false.2 ⟨i, List.mem_range.2 (by omega), by rw [e]; simp⟩
    simp [gt, this])
  skip
  refine av ?_
  refine K17 _ ?_
  refine yR ?_
  refine yM rfl rfl ?_
  refine aa rfl (bn rfl rfl rfl (by omega)) ?_
  refine yA rfl rfl ?_
  refine yN ?_
  dsimp only [St.put]
  exact ⟨i + 1, by omega, ⟨by omega, by rw [gp, hI.2, hst, hc]; rfl⟩, ⟨⟨rfl, rfl⟩, zF, zB, zN, zX⟩⟩
 replace hc := of_decide_eq_false hc
 obtain rfl : i = l.length := by omega
 refine co ?_
 refine K13 _ ?_
 refine yS fun _ K20 => ?_
 refine yR ?_
 refine yA rfl rfl ?_
 refine yN ?_
 dsimp only [St.put]
 refine K20 _ ?_
 refine ar ?_
 refine az rfl (by constructor) zN zS ?_
 exact vb (by
  unfold gt
  rw [hI.2, Bool.and_true]
  first
  | exact s3.symm
  | (have e1 : 0 ≤ r := by omega
     simp [e1]))
end Go.Proofs.YtbbdginipiljdaaGreatDoor
namespace Go.AB
open Go Go.RowKit
open Go.AB.Enc (cells)
open Go.PB (aw ai PlaceD bc bf bd bl am af ck bi cy c6)
def l8 (p : af) (last : Int) (x : am) : Bool := decide (last < x.fr) && decide (x.fr ≤ x.to) && decide (x.to < (l7 p.text : Int)) && inB x.fst (-1) ((p.firsts.length : Int) - 1) && inB x.snd (-1) ((p.seconds.length : Int) - 1)
theorem vo (p : af) (last : Int) (x : am) : li p last x = (l8 p last x && (gt p.text x x.fst x.found && gt p.text x x.snd x.well)) := by
 unfold li l8
 cases decide (last < x.fr) <;> cases decide (x.fr ≤ x.to) <;> cases decide (x.to < (l7 p.text : Int)) <;> cases inB x.fst (-1) ((p.firsts.length : Int) - 1) <;> cases inB x.snd (-1) ((p.seconds.length : Int) - 1) <;> simp
theorem x9 {p : af} {j : Nat} {x : am} (h : p.pages[j]? = some x) : ta p j = li p (g6 p.pages j) x := by unfold ta; rw [h]
theorem udm {l : List am} {j : Nat} {x : am} (h : l[j]? = some x) : g6 l (j + 1) = x.to := by simp only [g6, h]
theorem vn {p : af} {j : Nat} {x : am} (h : p.pages[j]? = some x) (hb : li p (g6 p.pages j) x = false) : fp p = false := by
 have : p9 p p.pages.length = false := List.all_eq_false.2 ⟨j, List.mem_range.2 (List.getElem?_eq_some_iff.1 h).1, by rw [x9 h, hb]; simp⟩
 simp [fp, this]
end Go.AB
namespace Go.Proofs.YtbbdginipiljdaaGreatDoor
set_option maxRecDepth 10000
open Go.RowKit Go.AB
open Go.AB.Enc (cells)
open Go.PB (aw ai PlaceD bc bf bd bl am af ck bi cy c6)
set_option maxHeartbeats 2000000 in
theorem ujj (p : af) (ht : dc p.text = true) : Pure Tryz.prog 87 [val p] (.v (.bool (fp p))) := by
 refine cn Tryz.func87 rfl (fun m => .v) fun G nx => ?_
 simp only [Tryz.ntmps87, List.length_cons, List.length_nil, Nat.reduceAdd, Nat.reduceSub]
 refine bq fun hlt => ?_
 dsimp only at hlt
 refine yS fun _ K1 => ?_
 refine yR ?_
 try dsimp only [St.put]
 refine yB rfl rfl rfl ?_
 refine yA rfl rfl ?_
 refine yN ?_
 dsimp only [St.put]
 refine K1 _ ?_
 refine yS fun _ K2 => ?_
 refine yS fun _ K3 => ?_
 refine yR ?_
 refine yF rfl rfl rfl rfl ?_
 refine yL rfl rfl rfl ?_
 refine aa rfl (bg rfl rfl (List.length_map _)) ?_
 refine aa rfl (g4 rfl rfl rfl) ?_
 refine ef (fun hs => ?_) (fun hs => ?_)
 ·have s1 : ¬ p.firsts.length ≤ 3 := by
   have := of_decide_eq_true hs
   omega
  refine yM rfl rfl ?_
  refine yK rfl ?_
  refine yK rfl ?_
  refine yK rfl ?_
  refine yK rfl ?_
  refine aa rfl (br rfl rfl (by constructor)) ?_
  refine yM rfl rfl ?_
  refine yK rfl ?_
  refine yK rfl ?_
  refine yK rfl ?_
  refine yK rfl ?_
  refine aa rfl (br rfl rfl (by constructor)) ?_
  refine yN ?_
  dsimp only [St.put]
  refine K3 _ ?_
  refine aq rfl (fun _ => ?_) (fun h => by cases h)
  refine yS fun _ K4 => ?_
  refine yR ?_
  refine yA rfl rfl ?_
  refine yN ?_
  dsimp only [St.put]
  refine K4 _ ?_
  refine ar ?_
  refine az rfl (by constructor) zN zS ?_
  exact vb (by first | (simp [fp, jg, s1]; done) | (simp [fp, jg, s2]; done) | (simp [fp, s3]; done))
 have s1 : p.firsts.length ≤ 3 := by
  have := of_decide_eq_false hs
  omega
 refine yM rfl rfl ?_
 refine yF rfl rfl rfl rfl ?_
 refine yL rfl rfl rfl ?_
 refine aa rfl (bg rfl rfl (List.length_map _)) ?_
 refine aa rfl (g4 rfl rfl rfl) ?_
 refine ef (fun hs => ?_) (fun hs => ?_)
 ·have s2 : ¬ p.seconds.length ≤ 3 := by
   have := of_decide_eq_true hs
   omega
  refine aa rfl (cb rfl rfl (by constructor)) ?_
  refine yM rfl rfl ?_
  refine yK rfl ?_
  refine yK rfl ?_
  refine yK rfl ?_
  refine yK rfl ?_
  refine aa rfl (br rfl rfl (by constructor)) ?_
  refine yN ?_
  dsimp only [St.put]
  refine K3 _ ?_
  refine aq rfl (fun _ => ?_) (fun h => by cases h)
  refine yS fun _ K5 => ?_
  refine yR ?_
  refine yA rfl rfl ?_
  refine yN ?_
  dsimp only [St.put]
  refine K5 _ ?_
  refine ar ?_
  refine az rfl (by constructor) zN zS ?_
  exact vb (by first | (simp [fp, jg, s1]; done) | (simp [fp, jg, s2]; done) | (simp [fp, s3]; done))
 have s2 : p.seconds.length ≤ 3 := by
  have := of_decide_eq_false hs
  omega
 refine aa rfl (cb rfl rfl (by constructor)) ?_
 refine yM rfl rfl ?_
 refine yF rfl rfl rfl rfl ?_
 refine yL rfl rfl rfl ?_
 refine aa rfl (bg rfl rfl (List.length_map _)) ?_
 refine aa rfl (g4 rfl rfl rfl) ?_
 refine ef (fun hs => ?_) (fun hs => ?_)
 ·have s3 : ¬ p.pages.length ≤ 8 := by
   have := of_decide_eq_true hs
   omega
  refine aa rfl (cb rfl rfl (by constructor)) ?_
  refine yN ?_
  dsimp only [St.put]
  refine K3 _ ?_
  refine aq rfl (fun _ => ?_) (fun h => by cases h)
  refine yS fun _ K6 => ?_
  refine yR ?_
  refine yA rfl rfl ?_
  refine yN ?_
  dsimp only [St.put]
  refine K6 _ ?_
  refine ar ?_
  refine az rfl (by constructor) zN zS ?_
  exact vb (by first | (simp [fp, jg, s1]; done) | (simp [fp, jg, s2]; done) | (simp [fp, s3]; done))
 have s3 : p.pages.length ≤ 8 := by
  have := of_decide_eq_false hs
  omega
 obtain ⟨A, hA⟩ : ∃ A, p.firsts ++ p.seconds = A := ⟨_, rfl⟩
 have hAl : A.length ≤ 6 := by rw [← hA, List.length_append]; omega
 refine aa rfl (cb rfl rfl (by constructor)) ?_
 refine yN ?_
 dsimp only [St.put]
 refine K3 _ ?_
 refine aq rfl (fun h => by cases h) (fun _ => ?_)
 refine av ?_
 refine K2 _ ?_
 refine yS fun _ K7 => ?_
 refine yR ?_
 refine yA rfl rfl ?_
 refine yN ?_
 dsimp only [St.put]
 refine K7 _ ?_
 refine ufp 3 67 2 rfl (by decide) ?_
 refine yS fun _ K8 => ?_
 refine f9 [(0, none), (1, none), (2, none), (4, none), (5, none), (3, none), (6, none), (7, none)] (fun i => [6].contains i) (fun i => [3, 6].contains i) (fun i => [0, 1, 4, 7].contains i) [] (by kernel_rfl) (by kernel_rfl) ?_
 refine xM rfl rfl rfl rfl rfl ?_
 refine ah rfl rfl rfl rfl (ca rfl rfl rfl) ?_
 try dsimp only [St.put]
 refine ax rfl rfl rfl rfl (bv rfl rfl) ?_
 refine ah rfl rfl rfl rfl (ca rfl rfl rfl) ?_
 try dsimp only [St.put]
 refine ax rfl rfl rfl rfl (bv rfl rfl) ?_
 refine ip ?_
 try dsimp only [St.put]
 refine i7 rfl rfl rfl (rx (xs := ([] : List bl)) p.firsts rfl rfl zG rfl rfl rfl rfl zA zA (fun v1 => ⟨zD, ?_⟩))
 try dsimp only [St.put]
 refine i7 rfl rfl rfl (rx (xs := ([] : List bl) ++ p.firsts) p.seconds rfl rfl zG rfl rfl rfl rfl zA zA (fun v2 => ⟨zD, ?_⟩))
 refine dw rfl rfl rfl rfl (fb rfl (by constructor)) ?_
 refine io ?_
 dsimp only [St.put]
 refine K8 _ ?_
 refine uac 3 (([] : List bl) ++ p.firsts ++ p.seconds) rfl zG rfl rfl rfl ?_
 refine cr G zX ?_
 dsimp only
 rw [show ([] : List bl) ++ p.firsts ++ p.seconds = A from hA]
 refine yS fun _ K9 => ?_
 refine yS fun _ K10 => ?_
 refine yR ?_
 refine yA rfl rfl ?_
 refine yN ?_
 dsimp only [St.put]
 refine K10 _ ?_
 refine ba ?_
 refine cc 9 ?_
 refine zQ ?_
 refine cr (G) zX ?_
 dsimp only
 refine cv (X := Nat) (fun i => i ≤ A.length ∧ (A.take i).all gi = true ∧ ((A.take i).map (·.id)).Nodup) (fun i => A.length - i) (fun i => [(4, .v (.int .i64 (i : Int))), (5, .any)]) (fun i G' => G') 0 rfl ?_ ?_ (fun _ _ h => h) ?_ ?_ ?_
 ·exact ⟨Nat.zero_le _, rfl, by simp⟩
 ·exact zF
 ·rintro i hI
  exact zL
 ·exact fun _ _ _ _ h => .inl h
 rintro i hI
 dsimp only at hI ⊢
 refine yS fun _ K11 => ?_
 refine yS fun _ K12 => ?_
 refine yR ?_
 refine yM rfl rfl ?_
 refine yM rfl rfl ?_
 refine aa rfl (bg rfl rfl (List.length_map _)) ?_
 refine aa rfl (ce rfl rfl rfl) ?_
 refine yN ?_
 dsimp only [St.put]
 refine K12 _ ?_
 refine aq rfl (fun hc => ?_) (fun hc => ?_)
 ·replace hc := of_decide_eq_true hc
  obtain ⟨r, hr⟩ : ∃ r, A[i]? = some r := cw (by omega)
  refine av ?_
  refine K11 _ ?_
  refine yS fun _ K13 => ?_
  refine ba ?_
  refine yS fun _ K14 => ?_
  refine yS fun _ K15 => ?_
  refine yR ?_
  refine yM rfl rfl ?_
  refine yM rfl rfl ?_
  refine aa rfl (bk rfl rfl rfl rfl (bj (by assumption)) (Enc.len _)) ?_
  refine yF rfl rfl rfl rfl ?_
  refine yL rfl rfl rfl ?_
  try dsimp only [St.put]
  refine ae rfl (ay rfl rfl rfl (pa _ _ _) ?_)
  refine aa rfl (dd rfl rfl) ?_
  refine ef (fun hs => ?_) (fun hs => ?_)
  ·have q1 : inB r.id 0 9999 = false := by simpa using hs
   refine yM rfl rfl ?_
   refine yK rfl ?_
   refine yK rfl ?_
   refine yK rfl ?_
   refine yK rfl ?_
   refine yK rfl ?_
   refine yK rfl ?_
   refine yK rfl ?_
   refine aa rfl (br rfl rfl (by constructor)) ?_
   refine yN ?_
   dsimp only [St.put]
   refine K15 _ ?_
   refine aq rfl (fun _ => ?_) (fun h => by cases h)
   refine yS fun _ K16 => ?_
   refine yR ?_
   refine yA rfl rfl ?_
   refine yN ?_
   dsimp only [St.put]
   refine K16 _ ?_
   refine ar ?_
   refine az rfl (by constructor) zN zS ?_
   exact vb (by
    have hb : gi r = false := by first | (simp [gi, q1]; done) | (simp [gi, q2]; done)
    have : A.all gi = false := j1 hr hb
    rw [← hA] at this
    simp only [fp, jg, this, Bool.and_false, Bool.false_and])
  have q1 : inB r.id 0 9999 = true := by simpa using hs
  refine yM rfl rfl ?_
  refine yM rfl rfl ?_
  refine yM rfl rfl ?_
  refine aa rfl (bk rfl rfl rfl rfl (bj (by assumption)) (Enc.len _)) ?_
  refine yF rfl rfl rfl rfl ?_
  refine yL rfl rfl rfl ?_
  try dsimp only [St.put]
  refine ae rfl (ay rfl rfl rfl (pa _ _ _) ?_)
  refine aa rfl (dd rfl rfl) ?_
  refine ef (fun hs => ?_) (fun hs => ?_)
  ·have q2 : inB r.miss 0 90 = false := by simpa using hs
   refine aa rfl (cb rfl rfl (by constructor)) ?_
   refine yN ?_
   dsimp only [St.put]
   refine K15 _ ?_
   refine aq rfl (fun _ => ?_) (fun h => by cases h)
   refine yS fun _ K17 => ?_
   refine yR ?_
   refine yA rfl rfl ?_
   refine yN ?_
   dsimp only [St.put]
   refine K17 _ ?_
   refine ar ?_
   refine az rfl (by constructor) zN zS ?_
   exact vb (by
    have hb : gi r = false := by first | (simp [gi, q1]; done) | (simp [gi, q2]; done)
    have : A.all gi = false := j1 hr hb
    rw [← hA] at this
    simp only [fp, jg, this, Bool.and_false, Bool.false_and])
  have q2 : inB r.miss 0 90 = true := by simpa using hs
  have hrb : gi r = true := by simp [gi, q1, q2]
  refine aa rfl (cb rfl rfl (by constructor)) ?_
  refine yN ?_
  dsimp only [St.put]
  refine K15 _ ?_
  refine aq rfl (fun h => by cases h) (fun _ => ?_)
  refine av ?_
  refine K14 _ ?_
  refine yS fun _ K18 => ?_
  refine yR ?_
  refine yA rfl rfl ?_
  refine yN ?_
  dsimp only [St.put]
  refine K18 _ ?_
  refine ba ?_
  refine cc 9 ?_
  refine zQ ?_
  refine cr (G) zX ?_
  dsimp only
  refine cv (X := Nat) (fun k => k ≤ i ∧ ∀ y ∈ A.take k, y.id ≠ r.id) (fun k => i - k) (fun k => [(5, .v (.int .i64 (k : Int)))]) (fun k G' => G') 0 rfl ?_ ?_ (fun _ _ h => h) ?_ ?_ ?_
  ·exact ⟨Nat.zero_le _, by simp⟩
  ·exact zF
  ·rintro k hI
   exact zL
  ·exact fun _ _ _ _ h => .inl h
  rintro k hJ
  dsimp only at hJ ⊢
  refine yS fun _ K19 => ?_
  refine yS fun _ K20 => ?_
  refine yR ?_
  refine yM rfl rfl ?_
  refine yM rfl rfl ?_
  refine aa rfl (ce rfl rfl rfl) ?_
  refine yN ?_
  dsimp only [St.put]
  refine K20 _ ?_
  refine aq rfl (fun hc => ?_) (fun hc => ?_)
  ·replace hc := of_decide_eq_true hc
   obtain ⟨y, hy⟩ : ∃ y, A[k]? = some y := cw (by omega)
   refine av ?_
   refine K19 _ ?_
   refine yS fun _ K21 => ?_
   refine ba ?_
   refine yS fun _ K22 => ?_
   refine f9 [(0, none), (1, none), (2, none), (3, none), (4, none), (5, none), (6, none), (7, none), (8, none), (9, none), (10, none)] (fun i => [].contains i) (fun i => [].contains i) (fun i => [0, 1, 2, 3, 5, 6, 7, 8, 10].contains i) [] (by kernel_rfl) (by kernel_rfl) ?_
   refine xM rfl rfl rfl rfl rfl ?_
   refine xM rfl rfl rfl rfl rfl ?_
   try dsimp only [St.put]
   refine ah rfl rfl rfl rfl (bk rfl rfl rfl rfl (bj (by assumption)) (Enc.len _)) ?_
   refine ah rfl rfl rfl rfl (ca rfl rfl rfl) ?_
   try dsimp only [St.put]
   refine ax rfl rfl rfl rfl (bv rfl rfl) ?_
   refine xM rfl rfl rfl rfl rfl ?_
   refine xM rfl rfl rfl rfl rfl ?_
   try dsimp only [St.put]
   refine ah rfl rfl rfl rfl (bk rfl rfl rfl rfl (bj (by assumption)) (Enc.len _)) ?_
   refine ah rfl rfl rfl rfl (ca rfl rfl rfl) ?_
   try dsimp only [St.put]
   refine ax rfl rfl rfl rfl (bv rfl rfl) ?_
   refine ah rfl rfl rfl rfl (fa rfl rfl rfl) ?_
   refine cg ?_
   dsimp only [St.put]
   refine K22 _ ?_
   refine aq rfl (fun hc => ?_) (fun hc => ?_)
   ·have hyr : y.id = r.id := of_decide_eq_true hc
    refine yS fun _ K23 => ?_
    refine yR ?_
    refine yA rfl rfl ?_
    refine yN ?_
    dsimp only [St.put]
    refine K23 _ ?_
    refine ar ?_
    refine az rfl (by constructor) zN zS ?_
    exact vb (by
     have : ¬ (A.map (·.id)).Nodup := ym hy hr (by omega) hyr
     rw [← hA] at this
     simp only [fp, jg, decide_eq_false this, Bool.and_false, Bool.false_and])
   have hne : y.id ≠ r.id := of_decide_eq_false hc
   refine av ?_
   refine K21 _ ?_
   refine yR ?_
   refine yM rfl rfl ?_
   refine aa rfl (bn rfl rfl rfl (by omega)) ?_
   refine yA rfl rfl ?_
   refine yN ?_
   dsimp only [St.put]
   exact ⟨k + 1, by omega, ⟨by omega, yv (p := fun y : bl => y.id ≠ r.id) hy hne hJ.2⟩, ⟨⟨rfl, rfl⟩, zF, zB, zN, zX⟩⟩
  replace hc := of_decide_eq_false hc
  have hki : k = i := by omega
  rw [hki] at hJ
  have hnd : r.id ∉ (A.take i).map (·.id) := fun hm => by
   obtain ⟨y, hy1, hy2⟩ := List.mem_map.1 hm
   exact hJ.2 y hy1 hy2
  refine co ?_
  refine K13 _ ?_
  refine yR ?_
  refine yM rfl rfl ?_
  refine aa rfl (bn rfl rfl rfl (by omega)) ?_
  refine yA rfl rfl ?_
  refine yN ?_
  dsimp only [St.put]
  exact ⟨i + 1, by omega, ⟨by omega, by rw [qp hr, hI.2.1, hrb]; rfl, by rw [pg hr]; exact yn hI.2.2 hnd⟩, ⟨⟨rfl, rfl⟩, zF, zB, zN, zX⟩⟩
 replace hc := of_decide_eq_false hc
 have hRB : jg p = true := by
  have h1 := hI.2.1
  have h2 := hI.2.2
  rw [ga (show A.length ≤ i by omega), ← hA] at h1 h2
  unfold jg
  rw [h1, decide_eq_true h2, decide_eq_true s1, decide_eq_true s2]; rfl
 refine co ?_
 refine K9 _ ?_
 refine yS fun _ K24 => ?_
 refine yR ?_
 refine yA rfl rfl ?_
 refine yN ?_
 dsimp only [St.put]
 refine K24 _ ?_
 refine yS fun _ K25 => ?_
 refine yS fun _ K26 => ?_
 refine yR ?_
 refine yA rfl rfl ?_
 refine yN ?_
 dsimp only [St.put]
 refine K26 _ ?_
 refine ba ?_
 refine cc 9 ?_
 refine zQ ?_
 refine cr (G) zX ?_
 dsimp only
 refine cv (X := Nat) (fun j => j ≤ p.pages.length ∧ p9 p j = true) (fun j => p.pages.length - j) (fun j => [(6, .v (.int .i64 (g6 p.pages j))), (7, .v (.int .i64 (j : Int))), (8, .any)]) (fun j G' => G') 0 rfl ?_ ?_ (fun _ _ h => h) ?_ ?_ ?_
 ·exact ⟨Nat.zero_le _, rfl⟩
 ·exact zF
 ·rintro j hI
  exact zL
 ·exact fun _ _ _ _ h => .inl h
 rintro j hK
 dsimp only at hK ⊢
 refine yS fun _ K27 => ?_
 refine yS fun _ K28 => ?_
 refine yR ?_
 refine yM rfl rfl ?_
 refine yF rfl rfl rfl rfl ?_
 refine yL rfl rfl rfl ?_
 refine aa rfl (bg rfl rfl (List.length_map _)) ?_
 refine aa rfl (ce rfl rfl rfl) ?_
 refine yN ?_
 dsimp only [St.put]
 refine K28 _ ?_
 refine aq rfl (fun hc => ?_) (fun hc => ?_)
 ·replace hc := of_decide_eq_true hc
  obtain ⟨x, hx⟩ : ∃ x, p.pages[j]? = some x := cw (by omega)
  refine av ?_
  refine K27 _ ?_
  refine yS fun _ K29 => ?_
  refine ba ?_
  refine yS fun _ K30 => ?_
  refine yR ?_
  refine yF rfl rfl rfl rfl ?_
  refine yL rfl rfl rfl ?_
  refine yM rfl rfl ?_
  refine aa rfl (bk rfl rfl rfl rfl (bj (by assumption)) (Enc.len _)) ?_
  refine yE rfl rfl rfl ?_
  try dsimp only [St.put]
  refine ae rfl (dt rfl ?_)
  try dsimp only [St.put]
  refine ae rfl (cx rfl rfl rfl zG rfl rfl (by rfl) ?_)
  refine yN ?_
  dsimp only [St.put]
  refine K30 _ ?_
  refine fu (i := 8) rfl zG zC ?_
  dsimp only
  refine yS fun _ K31 => ?_
  refine cc 9 ?_
  refine zQ ?_
  refine j0 (X := Bool) (fun d => l8 p (g6 p.pages j) x = !d) (fun d => [(120, .v (.bool d))]) (fun d G' => G') rfl ?_ (fun _ _ _ _ h => .inl h) ?_ ?_
  ·rintro d hI
   exact zL
  ·refine qn [(0, none), (1, none), (2, none), (3, none), (4, none), (5, none), (6, none), (7, none), (8, none), (9, none), (10, none), (11, none), (12, none), (13, none), (14, none), (15, none)] (fun _ => false) (fun i => [0, 2, 3, 4, 5, 7, 9, 10, 11, 12, 14].contains i) 23 (rl [16, 23]) (by kernel_rfl) (by kernel_rfl) ?_
   refine ah rfl rfl rfl rfl (ca rfl rfl rfl) ?_
   try dsimp only [St.put]
   refine ax rfl rfl rfl rfl (bv rfl rfl) ?_
   refine xM rfl rfl rfl rfl rfl ?_
   refine ah rfl rfl rfl rfl (qb rfl rfl rfl) ?_
   refine jn (fun hs => ?_) (fun hs => ?_)
   ·have z1 : x.fr ≤ g6 p.pages j := of_decide_eq_true hs
    refine xM rfl rfl rfl rfl rfl ?_
    refine aj rfl rfl rfl ?_
    refine aj rfl rfl rfl ?_
    refine aj rfl rfl rfl ?_
    refine aj rfl rfl rfl ?_
    refine aj rfl rfl rfl ?_
    refine ah rfl rfl rfl rfl (br rfl rfl (by constructor)) ?_
    refine xM rfl rfl rfl rfl rfl ?_
    refine aj rfl rfl rfl ?_
    refine aj rfl rfl rfl ?_
    refine aj rfl rfl rfl ?_
    refine aj rfl rfl rfl ?_
    refine cg ?_
    refine dq [16] (by kernel_rfl) (by simp) ?_
    refine dp ?_ ?_
    ·refine fw rfl rfl rfl ?_
     refine eg [(17, none), (18, none), (19, none), (20, none), (21, none), (22, none), (23, none), (24, none), (25, none)] (fun i => [17, 18, 19, 20, 22, 24, 25].contains i) 13 (rl [26, 13]) (by kernel_rfl) ?_
     refine aj rfl rfl rfl ?_
     refine ah rfl rfl rfl rfl (br rfl rfl (by constructor)) ?_
     refine xM rfl rfl rfl rfl rfl ?_
     refine aj rfl rfl rfl ?_
     refine aj rfl rfl rfl ?_
     refine aj rfl rfl rfl ?_
     refine aj rfl rfl rfl ?_
     refine aj rfl rfl rfl ?_
     refine aj rfl rfl rfl ?_
     refine cg ?_
     refine dq [26] (by kernel_rfl) (by simp) ?_
     refine dp ?_ ?_
     ·refine fw rfl rfl rfl ?_
      refine eg [(27, none), (28, none), (29, none), (30, none), (31, none), (32, none), (33, none), (34, none), (35, none)] (fun i => [27, 28, 29, 30, 32, 34, 35].contains i) 3 (rl [36, 3]) (by kernel_rfl) ?_
      refine aj rfl rfl rfl ?_
      refine ah rfl rfl rfl rfl (br rfl rfl (by constructor)) ?_
      refine xM rfl rfl rfl rfl rfl ?_
      refine aj rfl rfl rfl ?_
      refine aj rfl rfl rfl ?_
      refine aj rfl rfl rfl ?_
      refine aj rfl rfl rfl ?_
      refine aj rfl rfl rfl ?_
      refine aj rfl rfl rfl ?_
      refine cg ?_
      refine dq [36] (by kernel_rfl) (by simp) ?_
      refine dp ?_ ?_
      ·refine fw rfl rfl rfl ?_
       refine eg [(37, none), (38, none)] (fun i => [37, 38].contains i) 0 (rl [39]) (by kernel_rfl) ?_
       refine aj rfl rfl rfl ?_
       refine ah rfl rfl rfl rfl (br rfl rfl (by constructor)) ?_
       refine cg ?_
       dsimp only [St.put]
       refine g8 (by kernel_rfl) ?_
       refine ⟨_, ?_, ⟨⟨rfl, rfl⟩, zF, zB, zN, zX⟩⟩
       simp_all [l8]
       try (intro h0; omega)
      exact dn
     exact dn
    exact dn
   have z1 : ¬ x.fr ≤ g6 p.pages j := of_decide_eq_false hs
   refine xM rfl rfl rfl rfl rfl ?_
   refine ah rfl rfl rfl rfl (ca rfl rfl rfl) ?_
   try dsimp only [St.put]
   refine ax rfl rfl rfl rfl (bv rfl rfl) ?_
   refine ah rfl rfl rfl rfl (ca rfl rfl rfl) ?_
   try dsimp only [St.put]
   refine ax rfl rfl rfl rfl (bv rfl rfl) ?_
   refine ah rfl rfl rfl rfl (ce rfl rfl rfl) ?_
   refine jn (fun hs => ?_) (fun hs => ?_)
   ·have z2 : x.to < x.fr := of_decide_eq_true hs
    refine ah rfl rfl rfl rfl (cb rfl rfl (by constructor)) ?_
    refine xM rfl rfl rfl rfl rfl ?_
    refine aj rfl rfl rfl ?_
    refine aj rfl rfl rfl ?_
    refine aj rfl rfl rfl ?_
    refine aj rfl rfl rfl ?_
    refine cg ?_
    refine dq [16] (by kernel_rfl) (by simp) ?_
    refine dp ?_ ?_
    ·refine fw rfl rfl rfl ?_
     refine eg [(17, none), (18, none), (19, none), (20, none), (21, none), (22, none), (23, none), (24, none), (25, none)] (fun i => [17, 18, 19, 20, 22, 24, 25].contains i) 13 (rl [26, 13]) (by kernel_rfl) ?_
     refine aj rfl rfl rfl ?_
     refine ah rfl rfl rfl rfl (br rfl rfl (by constructor)) ?_
     refine xM rfl rfl rfl rfl rfl ?_
     refine aj rfl rfl rfl ?_
     refine aj rfl rfl rfl ?_
     refine aj rfl rfl rfl ?_
     refine aj rfl rfl rfl ?_
     refine aj rfl rfl rfl ?_
     refine aj rfl rfl rfl ?_
     refine cg ?_
     refine dq [26] (by kernel_rfl) (by simp) ?_
     refine dp ?_ ?_
     ·refine fw rfl rfl rfl ?_
      refine eg [(27, none), (28, none), (29, none), (30, none), (31, none), (32, none), (33, none), (34, none), (35, none)] (fun i => [27, 28, 29, 30, 32, 34, 35].contains i) 3 (rl [36, 3]) (by kernel_rfl) ?_
      refine aj rfl rfl rfl ?_
      refine ah rfl rfl rfl rfl (br rfl rfl (by constructor)) ?_
      refine xM rfl rfl rfl rfl rfl ?_
      refine aj rfl rfl rfl ?_
      refine aj rfl rfl rfl ?_
      refine aj rfl rfl rfl ?_
      refine aj rfl rfl rfl ?_
      refine aj rfl rfl rfl ?_
      refine aj rfl rfl rfl ?_
      refine cg ?_
      refine dq [36] (by kernel_rfl) (by simp) ?_
      refine dp ?_ ?_
      ·refine fw rfl rfl rfl ?_
       refine eg [(37, none), (38, none)] (fun i => [37, 38].contains i) 0 (rl [39]) (by kernel_rfl) ?_
       refine aj rfl rfl rfl ?_
       refine ah rfl rfl rfl rfl (br rfl rfl (by constructor)) ?_
       refine cg ?_
       dsimp only [St.put]
       refine g8 (by kernel_rfl) ?_
       refine ⟨_, ?_, ⟨⟨rfl, rfl⟩, zF, zB, zN, zX⟩⟩
       simp_all [l8]
       try (intro h0; omega)
      exact dn
     exact dn
    exact dn
   have z2 : ¬ x.to < x.fr := of_decide_eq_false hs
   refine ah rfl rfl rfl rfl (cb rfl rfl (by constructor)) ?_
   refine xM rfl rfl rfl rfl rfl ?_
   refine ah rfl rfl rfl rfl (ca rfl rfl rfl) ?_
   try dsimp only [St.put]
   refine ax rfl rfl rfl rfl (bv rfl rfl) ?_
   refine ah rfl rfl rfl rfl (ca rfl rfl rfl) ?_
   try dsimp only [St.put]
   refine ax rfl rfl rfl rfl (c := gy p.text) (i3 (cs := cells p) rfl rfl (show 1 ≤ 4 by decide)) ?_
   refine cg ?_
   refine dq [16] (by kernel_rfl) (by simp) ?_
   refine dp ?_ ?_
   ·try dsimp only [St.put]
    refine ig rfl rfl rfl (ay rfl rfl rfl (ujf p.text ht) ?_)
    refine eg [(17, none), (18, none), (19, none), (20, none), (21, none), (22, none), (23, none), (24, none), (25, none)] (fun i => [17, 18, 19, 20, 22, 24, 25].contains i) 13 (rl [26, 13]) (by kernel_rfl) ?_
    refine ah rfl rfl rfl rfl (mz rfl rfl rfl) ?_
    refine jn (fun hs => ?_) (fun hs => ?_)
    ·have z3 : (l7 p.text : Int) ≤ x.to := of_decide_eq_true hs
     refine ah rfl rfl rfl rfl (cb rfl rfl (by constructor)) ?_
     refine xM rfl rfl rfl rfl rfl ?_
     refine aj rfl rfl rfl ?_
     refine aj rfl rfl rfl ?_
     refine aj rfl rfl rfl ?_
     refine aj rfl rfl rfl ?_
     refine aj rfl rfl rfl ?_
     refine aj rfl rfl rfl ?_
     refine cg ?_
     refine dq [26] (by kernel_rfl) (by simp) ?_
     refine dp ?_ ?_
     ·refine fw rfl rfl rfl ?_
      refine eg [(27, none), (28, none), (29, none), (30, none), (31, none), (32, none), (33, none), (34, none), (35, none)] (fun i => [27, 28, 29, 30, 32, 34, 35].contains i) 3 (rl [36, 3]) (by kernel_rfl) ?_
      refine aj rfl rfl rfl ?_
      refine ah rfl rfl rfl rfl (br rfl rfl (by constructor)) ?_
      refine xM rfl rfl rfl rfl rfl ?_
      refine aj rfl rfl rfl ?_
      refine aj rfl rfl rfl ?_
      refine aj rfl rfl rfl ?_
      refine aj rfl rfl rfl ?_
      refine aj rfl rfl rfl ?_
      refine aj rfl rfl rfl ?_
      refine cg ?_
      refine dq [36] (by kernel_rfl) (by simp) ?_
      refine dp ?_ ?_
      ·refine fw rfl rfl rfl ?_
       refine eg [(37, none), (38, none)] (fun i => [37, 38].contains i) 0 (rl [39]) (by kernel_rfl) ?_
       refine aj rfl rfl rfl ?_
       refine ah rfl rfl rfl rfl (br rfl rfl (by constructor)) ?_
       refine cg ?_
       dsimp only [St.put]
       refine g8 (by kernel_rfl) ?_
       refine ⟨_, ?_, ⟨⟨rfl, rfl⟩, zF, zB, zN, zX⟩⟩
       simp_all [l8]
       try (intro h0; omega)
      exact dn
     exact dn
    have z3 : ¬ (l7 p.text : Int) ≤ x.to := of_decide_eq_false hs
    refine ah rfl rfl rfl rfl (cb rfl rfl (by constructor)) ?_
    refine xM rfl rfl rfl rfl rfl ?_
    refine ah rfl rfl rfl rfl (ca rfl rfl rfl) ?_
    try dsimp only [St.put]
    refine ax rfl rfl rfl rfl (bv rfl rfl) ?_
    refine ah rfl rfl rfl rfl (ca rfl rfl rfl) ?_
    try dsimp only [St.put]
    refine ax rfl rfl rfl rfl (bv rfl rfl) ?_
    refine ah rfl rfl rfl rfl (bg rfl rfl (List.length_map _)) ?_
    refine ah rfl rfl rfl rfl (gn rfl rfl rfl (by omega)) ?_
    refine cg ?_
    refine dq [26] (by kernel_rfl) (by simp) ?_
    refine dp ?_ ?_
    ·try dsimp only [St.put]
     refine ig rfl rfl rfl (ay rfl rfl rfl (pa _ _ _) ?_)
     refine eg [(27, none), (28, none), (29, none), (30, none), (31, none), (32, none), (33, none), (34, none), (35, none)] (fun i => [27, 28, 29, 30, 32, 34, 35].contains i) 3 (rl [36, 3]) (by kernel_rfl) ?_
     refine ah rfl rfl rfl rfl (dd rfl rfl) ?_
     refine jn (fun hs => ?_) (fun hs => ?_)
     ·have z4 : inB x.fst (-1) ((p.firsts.length : Int) - 1) = false := by simpa using hs
      refine ah rfl rfl rfl rfl (cb rfl rfl (by constructor)) ?_
      refine xM rfl rfl rfl rfl rfl ?_
      refine aj rfl rfl rfl ?_
      refine aj rfl rfl rfl ?_
      refine aj rfl rfl rfl ?_
      refine aj rfl rfl rfl ?_
      refine aj rfl rfl rfl ?_
      refine aj rfl rfl rfl ?_
      refine cg ?_
      refine dq [36] (by kernel_rfl) (by simp) ?_
      refine dp ?_ ?_
      ·refine fw rfl rfl rfl ?_
       refine eg [(37, none), (38, none)] (fun i => [37, 38].contains i) 0 (rl [39]) (by kernel_rfl) ?_
       refine aj rfl rfl rfl ?_
       refine ah rfl rfl rfl rfl (br rfl rfl (by constructor)) ?_
       refine cg ?_
       dsimp only [St.put]
       refine g8 (by kernel_rfl) ?_
       refine ⟨_, ?_, ⟨⟨rfl, rfl⟩, zF, zB, zN, zX⟩⟩
       simp_all [l8]
       try (intro h0; omega)
      exact dn
     have z4 : inB x.fst (-1) ((p.firsts.length : Int) - 1) = true := by simpa using hs
     refine ah rfl rfl rfl rfl (cb rfl rfl (by constructor)) ?_
     refine xM rfl rfl rfl rfl rfl ?_
     refine ah rfl rfl rfl rfl (ca rfl rfl rfl) ?_
     try dsimp only [St.put]
     refine ax rfl rfl rfl rfl (bv rfl rfl) ?_
     refine ah rfl rfl rfl rfl (ca rfl rfl rfl) ?_
     try dsimp only [St.put]
     refine ax rfl rfl rfl rfl (bv rfl rfl) ?_
     refine ah rfl rfl rfl rfl (bg rfl rfl (List.length_map _)) ?_
     refine ah rfl rfl rfl rfl (gn rfl rfl rfl (by omega)) ?_
     refine cg ?_
     refine dq [36] (by kernel_rfl) (by simp) ?_
     refine dp ?_ ?_
     ·try dsimp only [St.put]
      refine ig rfl rfl rfl (ay rfl rfl rfl (pa _ _ _) ?_)
      refine eg [(37, none), (38, none)] (fun i => [37, 38].contains i) 0 (rl [39]) (by kernel_rfl) ?_
      refine ah rfl rfl rfl rfl (dd rfl rfl) ?_
      refine jn (fun hs => ?_) (fun hs => ?_)
      ·have z5 : inB x.snd (-1) ((p.seconds.length : Int) - 1) = false := by simpa using hs
       refine ah rfl rfl rfl rfl (cb rfl rfl (by constructor)) ?_
       refine cg ?_
       dsimp only [St.put]
       refine g8 (by kernel_rfl) ?_
       refine ⟨_, ?_, ⟨⟨rfl, rfl⟩, zF, zB, zN, zX⟩⟩
       simp_all [l8]
       try (intro h0; omega)
      have z5 : inB x.snd (-1) ((p.seconds.length : Int) - 1) = true := by simpa using hs
      refine ah rfl rfl rfl rfl (cb rfl rfl (by constructor)) ?_
      refine cg ?_
      dsimp only [St.put]
      refine g8 (by kernel_rfl) ?_
      refine ⟨_, ?_, ⟨⟨rfl, rfl⟩, zF, zB, zN, zX⟩⟩
      simp_all [l8]
      try (intro h0; omega)
     exact dn
    exact dn
   exact dn
  rintro d hst
  dsimp only at hst ⊢
  refine aq rfl (fun hc => ?_) (fun hc => ?_)
  ·have hhd : l8 p (g6 p.pages j) x = false := by rw [hst, hc]; rfl
   refine yS fun _ K33 => ?_
   refine yR ?_
   refine yA rfl rfl ?_
   refine yN ?_
   dsimp only [St.put]
   refine K33 _ ?_
   refine ar ?_
   refine az rfl (by constructor) zN zS ?_
   exact vb (vn hx (by rw [vo, hhd]; rfl)).symm
  have hhd : l8 p (g6 p.pages j) x = true := by rw [hst, hc]; rfl
  refine av ?_
  refine K31 _ ?_
  refine yS fun _ K34 => ?_
  refine yS fun _ K35 => ?_
  refine yR ?_
  refine yF rfl rfl rfl rfl ?_
  try dsimp only [St.put]
  refine bw rfl (c := gy p.text) (i3 (cs := cells p) rfl rfl (show 1 ≤ 4 by decide)) ?_
  refine yE rfl rfl rfl ?_
  refine yF rfl rfl rfl rfl ?_
  refine yL rfl rfl rfl ?_
  refine yF rfl rfl rfl rfl ?_
  refine yL rfl rfl rfl ?_
  try dsimp only [St.put]
  refine ae rfl (ay rfl rfl rfl (ub0 p.text x x.fst x.found ht) ?_)
  refine aa rfl (dd rfl rfl) ?_
  refine ef (fun hs => ?_) (fun hs => ?_)
  ·have hf1 : gt p.text x x.fst x.found = false := by simpa using hs
   refine yM rfl rfl ?_
   refine yK rfl ?_
   refine yK rfl ?_
   refine yK rfl ?_
   refine yK rfl ?_
   refine yK rfl ?_
   refine yK rfl ?_
   refine yK rfl ?_
   refine yK rfl ?_
   refine yK rfl ?_
   refine aa rfl (br rfl rfl (by constructor)) ?_
   refine yN ?_
   dsimp only [St.put]
   refine K35 _ ?_
   refine aq rfl (fun _ => ?_) (fun h => by cases h)
   refine yS fun _ K36 => ?_
   refine yR ?_
   refine yA rfl rfl ?_
   refine yN ?_
   dsimp only [St.put]
   refine K36 _ ?_
   refine ar ?_
   refine az rfl (by constructor) zN zS ?_
   exact vb (vn hx (by rw [vo, hhd, hf1]; first | rfl | (rw [hf2]; rfl))).symm
  have hf1 : gt p.text x x.fst x.found = true := by simpa using hs
  refine yM rfl rfl ?_
  refine yF rfl rfl rfl rfl ?_
  try dsimp only [St.put]
  refine bw rfl (c := gy p.text) (i3 (cs := cells p) rfl rfl (show 1 ≤ 4 by decide)) ?_
  refine yE rfl rfl rfl ?_
  refine yF rfl rfl rfl rfl ?_
  refine yL rfl rfl rfl ?_
  refine yF rfl rfl rfl rfl ?_
  refine yL rfl rfl rfl ?_
  try dsimp only [St.put]
  refine ae rfl (ay rfl rfl rfl (ub0 p.text x x.snd x.well ht) ?_)
  refine aa rfl (dd rfl rfl) ?_
  refine ef (fun hs => ?_) (fun hs => ?_)
  ·have hf2 : gt p.text x x.snd x.well = false := by simpa using hs
   refine aa rfl (cb rfl rfl (by constructor)) ?_
   refine yN ?_
   dsimp only [St.put]
   refine K35 _ ?_
   refine aq rfl (fun _ => ?_) (fun h => by cases h)
   refine yS fun _ K37 => ?_
   refine yR ?_
   refine yA rfl rfl ?_
   refine yN ?_
   dsimp only [St.put]
   refine K37 _ ?_
   refine ar ?_
   refine az rfl (by constructor) zN zS ?_
   exact vb (vn hx (by rw [vo, hhd, hf1]; first | rfl | (rw [hf2]; rfl))).symm
  have hf2 : gt p.text x x.snd x.well = true := by simpa using hs
  refine aa rfl (cb rfl rfl (by constructor)) ?_
  refine yN ?_
  dsimp only [St.put]
  refine K35 _ ?_
  refine aq rfl (fun h => by cases h) (fun _ => ?_)
  refine av ?_
  refine K34 _ ?_
  refine yR ?_
  refine yF rfl rfl rfl rfl ?_
  refine yL rfl rfl rfl ?_
  refine yA rfl rfl ?_
  refine yN ?_
  dsimp only [St.put]
  refine K29 _ ?_
  refine yR ?_
  refine yM rfl rfl ?_
  refine aa rfl (bn rfl rfl rfl (by omega)) ?_
  refine yA rfl rfl ?_
  refine yN ?_
  dsimp only [St.put]
  rw [← udm hx]
  exact ⟨j + 1, by omega, ⟨by omega, by rw [uca, hK.2, x9 hx, vo, hhd, hf1, hf2]; rfl⟩, ⟨⟨rfl, rfl⟩, zF, zB, zN, zX⟩⟩
 replace hc := of_decide_eq_false hc
 obtain rfl : j = p.pages.length := by omega
 refine co ?_
 refine K25 _ ?_
 refine yS fun _ K38 => ?_
 refine yR ?_
 refine yA rfl rfl ?_
 refine yN ?_
 dsimp only [St.put]
 refine K38 _ ?_
 refine ar ?_
 refine az rfl (by constructor) zN zS ?_
 exact vb (by unfold fp; rw [hRB, hK.2, decide_eq_true s3]; rfl)
end Go.Proofs.YtbbdginipiljdaaGreatDoor
namespace Go.AB
open Go Go.RowKit
open Go.AB.Enc (cells)
open Go.PB (aw ai PlaceD bc bf bd bl am af ck bi cy c6)
theorem qo {p : af} {n : Int} (h : ed p n = 0) : cj p = 0 ∧ ∃ (j : Nat) (x : am), n = (j : Int) ∧ p.pages[j]? = some x ∧ l5 p n = x := by
 unfold ed at h
 by_cases hc : cj p = 0
 ·rw [decide_eq_true hc, cond_true] at h
  cases hb : inB n 0 ((p.pages.length : Int) - 1)
  ·rw [hb] at h; cases h
  rw [inB_true] at hb
  obtain ⟨x, hx⟩ : ∃ x, p.pages[n.toNat]? = some x := ⟨_, List.getElem?_eq_getElem (show n.toNat < p.pages.length by omega)⟩
  exact ⟨hc, n.toNat, x, by omega, hx, by unfold l5; rw [hx]; rfl⟩
 rw [decide_eq_false hc, cond_false] at h
 exact absurd h hc
end Go.AB
namespace Go.Proofs.YtbbdginipiljdaaGreatDoor
set_option maxRecDepth 10000
open Go.RowKit Go.AB
open Go.AB.Enc (cells)
open Go.PB (aw ai PlaceD bc bf bd bl am af ck bi cy c6)
theorem ujl (p : af) : Pure Tryz.prog 49 [val p] (.v (.int .i64 (cj p))) := by
 refine cn Tryz.func49 rfl (fun m => .v) fun G nx => ?_
 simp only [Tryz.ntmps49, List.length_cons, List.length_nil, Nat.reduceAdd, Nat.reduceSub]
 refine bq fun hlt => ?_
 dsimp only at hlt
 refine yS fun _ K1 => ?_
 refine yR ?_
 try dsimp only [St.put]
 refine yB rfl rfl rfl ?_
 refine yA rfl rfl ?_
 refine yN ?_
 dsimp only [St.put]
 refine K1 _ ?_
 refine yS fun _ K2 => ?_
 refine yS fun _ K3 => ?_
 refine yR ?_
 refine yF rfl rfl rfl rfl ?_
 try dsimp only [St.put]
 refine bw rfl (c := gy p.text) (i3 (cs := cells p) rfl rfl (show 1 ≤ 4 by decide)) ?_
 try dsimp only [St.put]
 refine ae rfl (ay rfl rfl rfl (uo8 p.text) ?_)
 refine yA rfl rfl ?_
 refine yN ?_
 dsimp only [St.put]
 refine K3 _ ?_
 refine yS fun _ K4 => ?_
 refine yR ?_
 refine yM rfl rfl ?_
 refine aa rfl (eh rfl rfl rfl) ?_
 refine yN ?_
 dsimp only [St.put]
 refine K4 _ ?_
 refine aq rfl (fun hc => ?_) (fun hc => ?_)
 ·have ht : dc p.text = false := by
   have h0 := ji hc
   unfold ix at h0
   cases h1 : dc p.text
   ·rfl
   rw [h1] at h0; exact absurd rfl h0
  refine yS fun _ K5 => ?_
  refine yR ?_
  refine yM rfl rfl ?_
  refine yA rfl rfl ?_
  refine yN ?_
  dsimp only [St.put]
  refine K5 _ ?_
  refine ar ?_
  refine az rfl (by constructor) zN zS ?_
  exact vi (by simp [cj, ix, ht])
 have ht : dc p.text = true := by
  have h0 := g3 hc
  unfold ix at h0
  cases h1 : dc p.text
  ·rw [h1] at h0; cases h0
  rfl
 refine av ?_
 refine K2 _ ?_
 refine yS fun _ K6 => ?_
 refine yS fun _ K7 => ?_
 refine yR ?_
 refine yE rfl rfl rfl ?_
 try dsimp only [St.put]
 refine ae rfl (ay rfl rfl rfl (ujj p ht) ?_)
 refine aa rfl (dd rfl rfl) ?_
 refine yN ?_
 dsimp only [St.put]
 refine K7 _ ?_
 refine aq rfl (fun hc => ?_) (fun hc => ?_)
 ·have hp : fp p = false := by simpa using hc
  refine yS fun _ K8 => ?_
  refine yR ?_
  refine yA rfl rfl ?_
  refine yN ?_
  dsimp only [St.put]
  refine K8 _ ?_
  refine ar ?_
  refine az rfl (by constructor) zN zS ?_
  exact vi (by simp [cj, ht, hp])
 have hp : fp p = true := by simpa using hc
 refine av ?_
 refine K6 _ ?_
 refine yS fun _ K9 => ?_
 refine yR ?_
 refine yA rfl rfl ?_
 refine yN ?_
 dsimp only [St.put]
 refine K9 _ ?_
 refine ar ?_
 refine az rfl (by constructor) zN zS ?_
 exact vi (by simp [cj, ht, hp])
end Go.Proofs.YtbbdginipiljdaaGreatDoor
namespace Go.Proofs.YtbbdginipiljdaaGreatDoor
set_option maxRecDepth 10000
open Go.RowKit Go.AB
open Go.AB.Enc (cells)
open Go.PB (aw ai PlaceD bc bf bd bl am af ck bi cy c6)
end Go.Proofs.YtbbdginipiljdaaGreatDoor
namespace Go.Proofs.YtbbdginipiljdaaGreatDoor
set_option maxRecDepth 10000
open Go.RowKit Go.AB
open Go.AB.Enc (cells)
open Go.PB (aw ai PlaceD bc bf bd bl am af ck bi cy c6)
end Go.Proofs.YtbbdginipiljdaaGreatDoor
namespace Go.Proofs.YtbbdginipiljdaaGreatDoor
set_option maxRecDepth 10000
open Go.RowKit Go.AB
open Go.AB.Enc (cells)
open Go.PB (aw ai PlaceD bc bf bd bl am af ck bi cy c6)
end Go.Proofs.YtbbdginipiljdaaGreatDoor
namespace Go.AB
open Go Go.RowKit
open Go.AB.Enc (cells)
open Go.PB (aw ai PlaceD bc bf bd bl am af ck bi)
/-! ### First and second readers change their places -/
/-! ### Errors that are missed -/
end Go.AB
namespace Go.AB
open Go Go.RowKit
open Go.AB.Enc (cells)
open Go.PB (aw ai PlaceD bc bf bd bl am af ck bi cy c6)
def rf (R : Nat → Int) (c : Int) (l : List Int) : Int := l.foldl (fun n z => min n (R z.toNat)) c
def km (R : Nat → Int) (n : Int) (l : List Int) : Nat → Int := l.foldl (fun R z => fun i => bif decide (i = z.toNat) then R z.toNat - n else R i) R
theorem uht (R : Nat → Int) (n : Int) : km R n [] = R := rfl
theorem uk8 {R : Nat → Int} {c : Int} {l : List Int} {k : Nat} {z : Int} (h : l[k]? = some z) : rf R c (l.take (k + 1)) = min (rf R c (l.take k)) (R z.toNat) := by
 unfold rf; rw [List.take_add_one, h, Option.toList_some, List.foldl_append]; rfl
theorem uhs {R : Nat → Int} {n : Int} {l : List Int} {k : Nat} {z : Int} (h : l[k]? = some z) : km R n (l.take (k + 1)) = fun i => bif decide (i = z.toNat) then km R n (l.take k) z.toNat - n else km R n (l.take k) i := by
 unfold km; rw [List.take_add_one, h, Option.toList_some, List.foldl_append]; rfl
theorem uoc {p : af} {j : Nat} {x : am} (hx : p.pages[j]? = some x) (R C : Nat → Int) : (bh p).alone R C j = rf R (C j) (dh p x) := by
 simp only [Net.alone, bh, hx, dh, rf]
 by_cases q1 : 0 ≤ x.fst <;> by_cases q2 : 0 ≤ x.snd
 ·simp [q1, q2, n4, show ((p.firsts.length : Int) + x.snd).toNat = p.firsts.length + x.snd.toNat by omega]
 ·simp [q1, q2, n4]
 ·simp [q1, q2, n4, show ((p.firsts.length : Int) + x.snd).toNat = p.firsts.length + x.snd.toNat by omega]
 ·simp [q1, q2, n4]
theorem uln {p : af} (h : eb p) {j : Nat} {x : am} (hx : p.pages[j]? = some x) (R : Nat → Int) (n : Int) : (bh p).lessR R j n = km R n (dh p x) := by
 have hp := pageB_true.1 (h.page j x hx)
 have h1 := hp.fst
 have h2 := hp.snd
 funext i
 simp only [Net.lessR, Net.by, bh, hx, dh, km]
 by_cases q1 : 0 ≤ x.fst <;> by_cases q2 : 0 ≤ x.snd
 ·have e2 : ((p.firsts.length : Int) + x.snd).toNat = p.firsts.length + x.snd.toNat := by omega
  have hne : ¬ p.firsts.length + x.snd.toNat = x.fst.toNat := by omega
  rw [decide_eq_true q1, decide_eq_true q2]
  simp only [cond_true, List.cons_append, List.nil_append, List.foldl_cons, List.foldl_nil, e2, Option.some.injEq]
  by_cases z1 : i = x.fst.toNat
  ·have z2 : ¬ i = p.firsts.length + x.snd.toNat := by omega
   simp [z1.symm, z2, Ne.symm z2]
  ·by_cases z2 : i = p.firsts.length + x.snd.toNat
   ·simp [z1, Ne.symm z1, z2, hne, Ne.symm hne]
   ·simp [z1, Ne.symm z1, z2, Ne.symm z2]
 ·rw [decide_eq_true q1, decide_eq_false q2]
  simp only [cond_true, cond_false, List.append_nil, List.foldl_cons, List.foldl_nil, Option.some.injEq]
  by_cases z1 : i = x.fst.toNat
  ·simp [z1]
  ·simp [z1, Ne.symm z1]
 ·have e2 : ((p.firsts.length : Int) + x.snd).toNat = p.firsts.length + x.snd.toNat := by omega
  rw [decide_eq_false q1, decide_eq_true q2]
  simp only [cond_true, cond_false, List.nil_append, List.foldl_cons, List.foldl_nil, e2, Option.some.injEq]
  by_cases z2 : i = p.firsts.length + x.snd.toNat
  ·simp [z2]
  ·simp [z2, Ne.symm z2]
 ·rw [decide_eq_false q1, decide_eq_false q2]
  simp
theorem z8 {p : af} {R C : Nat → Int} (hB : Bd p R C) {j : Nat} {n : Int} (h0 : 0 ≤ n) (hn : n ≤ (bh p).alone R C j) : Bd p ((bh p).lessR R j n) (dr C j) := by
 refine ⟨fun i => ?_, fun k => ?_, hB.nr, hB.np⟩
 ·unfold Net.lessR
  cases hb : (bh p).by j i
  ·exact hB.r i
  ·have h1 := (Net.le_alone.1 hn).2 i hb
   have h2 := hB.r i
   show -1000000 ≤ R i - n ∧ R i - n ≤ 1000000
   omega
 ·unfold dr
  cases decide (k = j)
  ·exact hB.c k
  ·exact ⟨Int.le_refl _, by show (0 : Int) ≤ 1000000; omega⟩
/-- what is above has been looked at -/
def FromTop (p : af) (R C : Nat → Int) (j : Nat) (n : Int) : Prop := (bh p).pick R C j ≤ n ∧ n ≤ (bh p).alone R C j ∧ ∀ m, n < m → m ≤ (bh p).alone R C j → ¬ (bh p).most R C ≤ m + (bh p).most ((bh p).lessR R j m) (dr C j)
theorem FromTop.start {p : af} {R C : Nat → Int} {j : Nat} (h : (bh p).Pick R C j ((bh p).pick R C j)) : FromTop p R C j ((bh p).alone R C j) := ⟨h.le, Int.le_refl _, fun m h1 h2 => by omega⟩
theorem FromTop.stop {p : af} {R C : Nat → Int} {j : Nat} {n : Int} (h : (bh p).Pick R C j ((bh p).pick R C j)) (k : FromTop p R C j n) (hs : (bh p).most R C ≤ n + (bh p).most ((bh p).lessR R j n) (dr C j)) : n = (bh p).pick R C j :=
 Net.Pick.uniq ⟨Int.le_trans h.nn k.1, k.2.1, hs, k.2.2⟩ h
theorem FromTop.down {p : af} {R C : Nat → Int} {j : Nat} {n : Int} (h : (bh p).Pick R C j ((bh p).pick R C j)) (k : FromTop p R C j n) (hs : ¬ (bh p).most R C ≤ n + (bh p).most ((bh p).lessR R j n) (dr C j)) : FromTop p R C j (n - 1) := by
 refine ⟨?_, by have := k.2.1; omega, fun m h1 h2 => ?_⟩
 ·have h1 := k.1
  by_cases e : n = (bh p).pick R C j
  ·subst e
   exact absurd h.ok hs
  ·omega
 ·by_cases e : m = n
  ·subst e; exact hs
  ·exact k.2.2 m (by omega) h2
end Go.AB
namespace Go.AB
open Go Go.RowKit
open Go.AB.Enc (cells)
section
variable {P : Program} {o : Oper} {st : St} {K : St → Prop}
/-- An empty slice that is built: owned. -/
theorem ue0 {t e : TypeId} {sz bytes : Nat} [AppT P t e sz bytes] (ho : o.op = .buildSlice t 0 #[]) (hsz1 : 1 ≤ sz) (h : K (St.put { st with G := ak st.G st.nx (.arr 0 0 e sz 0 []), nx := st.nx + 1 } o.dst (.own st.nx 0 0))) : EStep P o st K :=
 jx fun E w a hsim => by
  obtain ⟨ht, i, z, hie, hz, h1, h2, h3⟩ := AppT.spec (P := P) (t := t) (e := e) (sz := sz) (bytes := bytes)
  obtain ⟨ob, hob⟩ : ∃ ob, ob = Obj.cells #[] e := ⟨_, rfl⟩
  have hev := Ev.laid hsim.g (o := ob) 0 (.inl rfl)
  have hg := SimG.laid hsim.g (o := ob) 0 (.inl rfl)
  have hnew : (w.alloc ob).heap[w.heap.size]? = some ob := ro w ob
  have hsz : (w.alloc ob).heap.size = w.heap.size + 1 := by simp
  have hold : ∀ n tt b, (E.lay w.heap.size 0).T n = some tt → blk tt.2.2 = some b → b < w.heap.size := fun n tt b h5 h6 => (hsim.g.tb n _ _ _ b h5 h6).2
  have hnx := hsim.g.nx
  have hfr : ∀ b o', blk (.slice (some ⟨w.heap.size, 0, none⟩) 0 0) = some b → w.heap[b]? = some o' → False := fun b o' hbk ho' => by
   simp only [blk, Option.some.injEq] at hbk
   subst hbk
   have := (Array.getElem?_eq_some_iff.1 ho').1
   omega
  have hev2 := hev.thenName (.slice (some ⟨w.heap.size, 0, none⟩) 0 0) hfr
  have hg2 := SimG.name hg (.slice (some ⟨w.heap.size, 0, none⟩) 0 0) (.arr 0 0 e sz 0 []) (fun b hbk => by
   simp only [blk, Option.some.injEq] at hbk
   subst hbk
   exact ⟨hsim.g.base, by rw [hsz]; omega, fun n tt h5 h6 => absurd (hold n tt _ h5 h6) (by omega)⟩) (by
   refine ⟨.slice (some ⟨w.heap.size, 0, none⟩) 0 0, [], ?_, ⟨by simp, .inr ⟨w.heap.size, 0, _, rfl, hsim.g.base, hnew.trans (by rw [hob]), Nat.le_refl _, Nat.zero_le _, by simp, by simp⟩⟩, fun c hc => (by cases hc), Rs.nil, fun b hbk => ?_, hsz1⟩
   ·simp [Env.name, Env.lay, hnx]
   ·simp only [blk, Option.some.injEq] at hbk
    subst hbk
    simp [Env.name, Env.lay])
  refine ⟨.slice (some ⟨w.heap.size, 0, none⟩) 0 0, w.alloc ob, _, _, _, .own st.nx 0 0, ?_, hev2, ?_, hg2, h⟩
  ·subst hob
   simp [execOp, ho, Instr.buildSlice, run_underlying ht, sizeOf, typeInfo, hie, Instr.fill, newRow, newObj, Sem.run, show (Array.map (fun _ => (default : Value)) (Array.range 0)) = #[] from by simp]
  ·refine R.own (by simp [Env.name, Env.lay]; omega) (Nat.le_refl _) (Nat.zero_le _) fun ver wv val htt => ?_
   simp only [Env.name, Env.lay, hnx, if_true, Option.some.injEq, Prod.mk.injEq] at htt
   obtain ⟨rfl, rfl, rfl⟩ := htt
   exact ⟨Nat.le_refl _, fun _ => ⟨_, Nat.le_refl _, rfl⟩⟩
end
end Go.AB
namespace Go.AB
open Go Go.RowKit
open Go.AB.Enc (cells)
variable {ρ : Option Nat}
section
variable {P : Program} {Q : Exit → St → Prop} {st : St}
end
section
variable {P : Program} {o : Oper} {st : St} {K : St → Prop}
end
end Go.AB
namespace Go.AB
open Go Go.RowKit
/-- What stands in a slot is known less well. -/
theorem w5 {ρ : Option Nat} {P : Program} {Q : Exit → St → Prop} {st : St} {x : Code} (i : Nat) {c : C} (c' : C) (h0 : st.at i = c) (hw : Wk c c') (h : AW ρ P x Q { st with r := (i, c') :: st.r }) : AW ρ P x Q st := by
 intro E w a hs
 have hp := hs.at i
 rw [h0] at hp
 refine h E w a ⟨hs.d, hs.sz, fun j v hj => ?_, hs.g⟩
 simp only [cm]
 cases hb : Nat.beq i j
 ·exact hs.t j v hj
 ·have hij := Nat.eq_of_beq_eq_true hb
  subst hij
  have hv : a.tmps.getD i undef = v := by rw [Array.getD_eq_getD_getElem?, hj]; rfl
  rw [hv] at hp
  exact hw.2 _ _ _ hp
end Go.AB
namespace Go.AB
open Go Go.RowKit
open Go.AB.Enc (cells)
open Go.PB (aw ai PlaceD bc bf bd bl am af ck bi cy c6)
theorem ud9 {l : List Int} {k : Nat} {z : Int} (h : l[k]? = some z) : (c5 l)[k]? = some (.v (.int .i64 z)) := by
 have e : c5 l = l.map fun y => .v (.int .i64 y) := by
  clear h
  induction l with
  | nil => rfl
  | cons y l ih =>
   have h1 : c5 (y :: l) = cells y ++ c5 l := by simp [c5]
   rw [h1, ih]; rfl
 rw [e, List.getElem?_map, h]; rfl
end Go.AB
namespace Go.Proofs.YtbbdginipiljdaaGreatDoor
set_option maxRecDepth 10000
open Go.RowKit Go.AB
open Go.AB.Enc (cells)
open Go.PB (aw ai PlaceD bc bf bd bl am af ck bi cy c6)
theorem x5 {p : af} (h : eb p) {j : Nat} {x : am} (hx : p.pages[j]? = some x) {k : Nat} (hk : k < (dh p x).length) : ∃ zn : Nat, (dh p x)[k]? = some (zn : Int) ∧ zn < bx p := by
 have hp := pageB_true.1 (h.page j x hx)
 have h1 := hp.fst
 have h2 := hp.snd
 obtain ⟨z, hz⟩ : ∃ z, (dh p x)[k]? = some z := ⟨_, List.getElem?_eq_getElem hk⟩
 have hm := List.mem_of_getElem? hz
 have hb : 0 ≤ z ∧ z < (bx p : Int) := by
  unfold dh at hm
  unfold bx
  rw [List.mem_append] at hm
  rcases hm with hm | hm
  ·by_cases q : 0 ≤ x.fst
   ·rw [decide_eq_true q, cond_true, List.mem_singleton] at hm; omega
   rw [decide_eq_false q] at hm; cases hm
  by_cases q : 0 ≤ x.snd
  ·rw [decide_eq_true q, cond_true, List.mem_singleton] at hm; omega
  rw [decide_eq_false q] at hm; cases hm
 exact ⟨z.toNat, by rw [hz]; congr 1; omega, by omega⟩
end Go.Proofs.YtbbdginipiljdaaGreatDoor
