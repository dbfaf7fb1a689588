/-
  What the walks through the program rest on: values, states, steps, calls (PaFlow, PbData, PcWorst, PdPlain, PeSets, PfPlain, PgSides, PhApart, PiWhy, PjWhy, PsExamples, PpAdd, PlTruth, PqRest, AbTwin, AbCut, RaStd, OpenE, AbRem, AbBits, QaRef, QbRef, QcRef, RbSides, QdRef, QeRef, KxBefore, QfRef, QgRef, QhRef, QiRef, QjRef, QkRef, PmMore, QlPlain, AbZero, AbGrow, AbCutN, QmRef).
-/
import Derived.Lib.Hide
import Derived.Test.YtbbdginipiljdaaGreatDoorPartB
import Derived.Shelf.SlicesE.DeleteFunc
import Derived.Deep.Slices
import Derived.Lib.SmallJoins
import Derived.Carry
import Derived.ProofKit
import Derived.OpenShut
namespace Go.AB
/-- a sum -/
def sm : Nat → (Nat → Int) → Int
 | 0, _ => 0
 | n + 1, g => sm n g + g n
theorem ng : ∀ {n : Nat} {g h : Nat → Int}, (∀ i, i < n → g i ≤ h i) → sm n g ≤ sm n h
 | 0, _, _, _ => Int.le_refl _
 | n + 1, g, h, H => by
  have h1 := ng (n := n) fun i hi => H i (by omega)
  have h2 := H n (by omega)
  simp only [sm]; omega
theorem jh : ∀ {n : Nat} {g h : Nat → Int}, (∀ i, i < n → g i = h i) → sm n g = sm n h
 | 0, _, _, _ => rfl
 | n + 1, g, h, H => by
  have h1 := jh (n := n) fun i hi => H i (by omega)
  have h2 := H n (by omega)
  simp only [sm]; omega
theorem ot : ∀ (n : Nat) (g h : Nat → Int), sm n (fun i => g i + h i) = sm n g + sm n h
 | 0, _, _ => rfl
 | n + 1, g, h => by have := ot n g h; simp only [sm]; omega
theorem qj : ∀ (n : Nat) (g h : Nat → Int), sm n (fun i => g i - h i) = sm n g - sm n h
 | 0, _, _ => rfl
 | n + 1, g, h => by have := qj n g h; simp only [sm]; omega
theorem mj : ∀ n : Nat, sm n (fun _ => 0) = 0
 | 0 => rfl
 | n + 1 => by have := mj n; simp only [sm]; omega
theorem ui {n : Nat} {g : Nat → Int} (H : ∀ i, i < n → 0 ≤ g i) : 0 ≤ sm n g := by
 have := ng (g := fun _ => 0) H
 rwa [mj] at this
theorem oq : ∀ {n k : Nat} (_ : k < n) (v : Int), sm n (fun i => bif decide (i = k) then v else 0) = v
 | 0, _, h, _ => absurd h (Nat.not_lt_zero _)
 | n + 1, k, h, v => by
  simp only [sm]
  by_cases e : n = k
  ·subst e
   rw [jh (h := fun _ => 0) (fun i hi => by rw [decide_eq_false (by omega)]; rfl), mj, decide_eq_true rfl]
   simp
  ·rw [oq (n := n) (by omega) v, decide_eq_false e]
   simp
theorem uam : ∀ (n m : Nat) (g : Nat → Nat → Int), sm n (fun i => sm m (g i)) = sm m (fun j => sm n fun i => g i j)
 | 0, m, g => by simp only [sm]; exact (mj m).symm
 | n + 1, m, g => by
  have := uam n m g
  simp only [sm]
  rw [ot, this]
theorem uan {n k : Nat} {g : Nat → Int} (hk : k < n) (H : ∀ i, i < n → 0 ≤ g i) : g k ≤ sm n g := by
 have h1 := ng (n := n) (g := fun i => bif decide (i = k) then g k else 0) (h := g) fun i hi => by
  by_cases e : i = k
  ·subst e; simp
  ·rw [decide_eq_false e]; exact H i hi
 rwa [oq hk] at h1

/-- pages, each with a first and a second reader, or one of them, or none -/
structure Net where
 nF : Nat
 nr : Nat
 np : Nat
 fr : Nat → Option Nat
 sc : Nat → Option Nat
structure Net.Ok (N : Net) : Prop where
 le : N.nF ≤ N.nr
 fr : ∀ j i, N.fr j = some i → i < N.nF
 sc : ∀ j i, N.sc j = some i → N.nF ≤ i ∧ i < N.nr
def ob (S : Nat → Bool) : Option Nat → Bool
 | none => false
 | some i => S i
def Net.hit (N : Net) (S : Nat → Bool) (j : Nat) : Bool := ob S (N.fr j) || ob S (N.sc j)
/-- who reads a page -/
def Net.by (N : Net) (j i : Nat) : Bool := decide (N.fr j = some i) || decide (N.sc j = some i)
/-- what a set of readers proves -/
def Net.f (N : Net) (R C : Nat → Int) (S : Nat → Bool) : Int := sm N.nr (fun i => bif S i then R i else 0) + sm N.np (fun j => bif N.hit S j then 0 else C j)
/-- what may remain -/
structure Net.Feas (N : Net) (R C y : Nat → Int) : Prop where
 page : ∀ j, j < N.np → 0 ≤ y j ∧ y j ≤ C j
 rd : ∀ i, i < N.nr → sm N.np (fun j => bif N.by j i then y j else 0) ≤ R i
section
variable {N : Net} {R C : Nat → Int}
theorem Net.Ok.by_lt (h : N.Ok) {j i : Nat} (hb : N.by j i = true) : i < N.nr := by
 simp only [Net.by, Bool.or_eq_true, decide_eq_true_eq] at hb
 rcases hb with e | e
 ·have := h.fr j i e; have := h.le; omega
 ·exact (h.sc j i e).2
theorem Net.hit_iff {S : Nat → Bool} {j : Nat} : N.hit S j = true ↔ ∃ i, N.by j i = true ∧ S i = true := by
 unfold Net.hit Net.by
 constructor
 ·intro h
  rw [Bool.or_eq_true] at h
  rcases h with h | h
  ·cases e : N.fr j with
   | none => rw [e] at h; cases h
   | some i => rw [e] at h; exact ⟨i, by simp, h⟩
  ·cases e : N.sc j with
   | none => rw [e] at h; cases h
   | some i => rw [e] at h; exact ⟨i, by simp, h⟩
 ·rintro ⟨i, h1, h2⟩
  simp only [Bool.or_eq_true, decide_eq_true_eq] at h1 ⊢
  rcases h1 with e | e
  ·rw [e]; exact .inl h2
  ·rw [e]; exact .inr h2
theorem Net.f_congr (hN : N.Ok) {S S' : Nat → Bool} (h : ∀ i, i < N.nr → S i = S' i) : N.f R C S = N.f R C S' := by
 have h2 : ∀ j, N.hit S j = N.hit S' j := fun j => by
  rw [Bool.eq_iff_iff, Net.hit_iff, Net.hit_iff]
  exact ⟨fun ⟨i, q1, q2⟩ => ⟨i, q1, (h i (hN.by_lt q1)) ▸ q2⟩, fun ⟨i, q1, q2⟩ => ⟨i, q1, (h i (hN.by_lt q1)).symm ▸ q2⟩⟩
 have e1 : sm N.nr (fun i => bif S i then R i else 0) = sm N.nr (fun i => bif S' i then R i else 0) := jh fun i hi => by rw [h i hi]
 have e2 : sm N.np (fun j => bif N.hit S j then 0 else C j) = sm N.np (fun j => bif N.hit S' j then 0 else C j) := jh fun j _ => by rw [h2 j]
 unfold Net.f
 rw [e1, e2]
/-- no more remains than any readers prove -/
theorem Net.Feas.le {y : Nat → Int} (hN : N.Ok) (h : N.Feas R C y) (S : Nat → Bool) : sm N.np y ≤ N.f R C S := by
 have h1 : sm N.np (fun j => bif N.hit S j then y j else 0) ≤ sm N.nr (fun i => bif S i then R i else 0) := by
  have h2 : sm N.nr (fun i => sm N.np fun j => bif S i then (bif N.by j i then y j else 0) else 0) ≤ sm N.nr (fun i => bif S i then R i else 0) := ng fun i hi => by
   cases hS : S i
   ·simp only [cond_false, mj]; exact Int.le_refl _
   ·simp only [cond_true]; exact h.rd i hi
  refine Int.le_trans ?_ h2
  rw [uam]
  refine ng fun j hj => ?_
  have hy := (h.page j hj).1
  have hnn : ∀ i, i < N.nr → 0 ≤ (bif S i then (bif N.by j i then y j else 0) else 0) := fun i _ => by
   cases S i <;> cases N.by j i <;> simp [hy]
  cases hh : N.hit S j
  ·exact ui hnn
  ·obtain ⟨i, q1, q2⟩ := Net.hit_iff.1 hh
   have := uan (hN.by_lt q1) hnn
   simpa [q1, q2] using this
 have h3 : sm N.np (fun j => bif N.hit S j then 0 else y j) ≤ sm N.np (fun j => bif N.hit S j then 0 else C j) := ng fun j hj => by
  cases N.hit S j
  ·exact (h.page j hj).2
  ·exact Int.le_refl _
 have h4 : sm N.np y = sm N.np (fun j => bif N.hit S j then y j else 0) + sm N.np (fun j => bif N.hit S j then 0 else y j) := by
  rw [← ot]
  exact jh fun j _ => by cases N.hit S j <;> simp
 unfold Net.f
 omega
/-- two sets of readers, crossed -/
def l8 (nF : Nat) (S T : Nat → Bool) (i : Nat) : Bool := bif decide (i < nF) then S i || T i else S i && T i
def l7 (nF : Nat) (S T : Nat → Bool) (i : Nat) : Bool := bif decide (i < nF) then S i && T i else S i || T i
theorem Net.cross (hN : N.Ok) (hC : ∀ j, j < N.np → 0 ≤ C j) (S T : Nat → Bool) : N.f R C (l8 N.nF S T) + N.f R C (l7 N.nF S T) ≤ N.f R C S + N.f R C T := by
 have h1 : sm N.nr (fun i => bif l8 N.nF S T i then R i else 0) + sm N.nr (fun i => bif l7 N.nF S T i then R i else 0) = sm N.nr (fun i => bif S i then R i else 0) + sm N.nr (fun i => bif T i then R i else 0) := by
  rw [← ot, ← ot]
  refine jh fun i _ => ?_
  unfold l8 l7
  cases decide (i < N.nF) <;> cases S i <;> cases T i <;> simp
 have h2 : sm N.np (fun j => bif N.hit (l8 N.nF S T) j then 0 else C j) + sm N.np (fun j => bif N.hit (l7 N.nF S T) j then 0 else C j) ≤ sm N.np (fun j => bif N.hit S j then 0 else C j) + sm N.np (fun j => bif N.hit T j then 0 else C j) := by
  rw [← ot, ← ot]
  refine ng fun j hj => ?_
  have hc := hC j hj
  have e1 : ∀ U V : Nat → Bool, ob (l8 N.nF U V) (N.fr j) = (ob U (N.fr j) || ob V (N.fr j)) := fun U V => by
   cases e : N.fr j with
   | none => rfl
   | some i => simp only [ob, l8, decide_eq_true (hN.fr j i e), cond_true]
  have e2 : ∀ U V : Nat → Bool, ob (l7 N.nF U V) (N.fr j) = (ob U (N.fr j) && ob V (N.fr j)) := fun U V => by
   cases e : N.fr j with
   | none => rfl
   | some i => simp only [ob, l7, decide_eq_true (hN.fr j i e), cond_true]
  have e3 : ∀ U V : Nat → Bool, ob (l8 N.nF U V) (N.sc j) = (ob U (N.sc j) && ob V (N.sc j)) := fun U V => by
   cases e : N.sc j with
   | none => rfl
   | some i => have := hN.sc j i e; simp only [ob, l8, decide_eq_false (show ¬ i < N.nF by omega), cond_false]
  have e4 : ∀ U V : Nat → Bool, ob (l7 N.nF U V) (N.sc j) = (ob U (N.sc j) || ob V (N.sc j)) := fun U V => by
   cases e : N.sc j with
   | none => rfl
   | some i => have := hN.sc j i e; simp only [ob, l7, decide_eq_false (show ¬ i < N.nF by omega), cond_false]
  simp only [Net.hit, e1, e2, e3, e4]
  cases ob S (N.fr j) <;> cases ob T (N.fr j) <;> cases ob S (N.sc j) <;> cases ob T (N.sc j) <;> simp <;> omega
 unfold Net.f
 omega
/-- so much less for the readers of a page, and nothing more on it -/
def Net.lessR (N : Net) (R : Nat → Int) (j : Nat) (n : Int) (i : Nat) : Int := bif N.by j i then R i - n else R i
def er (C : Nat → Int) (j k : Nat) : Int := bif decide (k = j) then 0 else C k
def cnt (S : Nat → Bool) (o : Option Nat) (n : Int) : Int := bif ob S o then n else 0
theorem Net.f_less (hN : N.Ok) {j : Nat} (hj : j < N.np) (n : Int) (S : Nat → Bool) : N.f (N.lessR R j n) (er C j) S = N.f R C S - cnt S (N.fr j) n - cnt S (N.sc j) n - (bif N.hit S j then 0 else C j) := by
 have h1 : sm N.np (fun k => bif N.hit S k then 0 else er C j k) = sm N.np (fun k => bif N.hit S k then 0 else C k) - (bif N.hit S j then 0 else C j) := by
  have := oq hj (bif N.hit S j then 0 else C j)
  rw [← this, ← qj]
  refine jh fun k _ => ?_
  by_cases e : k = j
  ·subst e; simp [er]
  ·simp [er, e]
 have h2 : ∀ o : Option Nat, (∀ i, o = some i → i < N.nr) → sm N.nr (fun i => bif decide (o = some i) then (bif S i then n else 0) else 0) = cnt S o n := fun o ho => by
  cases o with
  | none => simp only [cnt, ob, cond_false]; rw [jh (h := fun _ => 0) (fun i _ => by simp), mj]
  | some k =>
   have := oq (ho k rfl) (bif S k then n else 0)
   rw [jh (h := fun i => bif decide (i = k) then (bif S k then n else 0) else 0)]
   ·exact this
   ·intro i _
    by_cases e : i = k
    ·subst e; simp
    ·simp [e, Ne.symm e]
 have h3 : sm N.nr (fun i => bif S i then N.lessR R j n i else 0) = sm N.nr (fun i => bif S i then R i else 0) - cnt S (N.fr j) n - cnt S (N.sc j) n := by
  rw [← h2 (N.fr j) (fun i e => by have := hN.fr j i e; have := hN.le; omega), ← h2 (N.sc j) (fun i e => (hN.sc j i e).2), ← qj, ← qj]
  refine jh fun i _ => ?_
  unfold Net.lessR Net.by
  have hx : ¬ (N.fr j = some i ∧ N.sc j = some i) := fun ⟨q1, q2⟩ => by have := hN.fr j i q1; have := (hN.sc j i q2).1; omega
  by_cases q1 : N.fr j = some i
  ·have q2 : ¬ N.sc j = some i := fun q2 => hx ⟨q1, q2⟩
   cases S i <;> simp [q1, q2]
  ·by_cases q2 : N.sc j = some i
   ·cases S i <;> simp [q1, q2]
   ·cases S i <;> simp [q1, q2]
 unfold Net.f
 rw [h1, h3]
 omega
/-- the least of some numbers, as it is looked for -/
def lj (g : Nat → Int) : Nat → Int
 | 0 => g 0
 | k + 1 => min (lj g k) (g k)
theorem ucg {g : Nat → Int} : ∀ {k s : Nat}, s < k ∨ s = 0 → lj g k ≤ g s
 | 0, s, h => by obtain rfl : s = 0 := by omega
         exact Int.le_refl _
 | k + 1, s, h => by
  by_cases e : s = k
  ·subst e; exact Int.min_le_right _ _
  ·have := ucg (g := g) (k := k) (s := s) (by omega)
   exact Int.le_trans (Int.min_le_left _ _) this
theorem x4 {g : Nat → Int} : ∀ k : Nat, ∃ s, (s < k ∨ s = 0) ∧ lj g k = g s
 | 0 => ⟨0, .inr rfl, rfl⟩
 | k + 1 => by
  obtain ⟨s, h1, h2⟩ := x4 (g := g) k
  by_cases e : lj g k ≤ g k
  ·exact ⟨s, by omega, by rw [lj, Int.min_eq_left e, h2]⟩
  ·exact ⟨k, by omega, by rw [lj, Int.min_eq_right (by omega)]⟩
/-- a set as a number -/
def pi (S : Nat → Bool) : Nat → Nat
 | 0 => 0
 | n + 1 => pi S n ||| (bif S n then 2 ^ n else 0)
theorem uek (S : Nat → Bool) : ∀ n, pi S n < 2 ^ n
 | 0 => by simp [pi]
 | n + 1 => by
  have h := uek S n
  have h2 : 2 ^ n < 2 ^ (n + 1) := Nat.pow_lt_pow_right (by omega) (by omega)
  unfold pi
  refine Nat.or_lt_two_pow (by omega) ?_
  cases S n
  ·exact Nat.two_pow_pos _
  ·exact h2
theorem uel (S : Nat → Bool) : ∀ n i, (pi S n).testBit i = (decide (i < n) && S i)
 | 0, i => by simp [pi]
 | n + 1, i => by
  have h := uel S n i
  unfold pi
  rw [Nat.testBit_or, h]
  by_cases e : i = n
  ·subst e
   cases hS : S i <;> simp
  ·have e2 : decide (i < n + 1) = decide (i < n) := by rw [decide_eq_decide]; omega
   rw [e2]
   cases hS : S n
   ·simp
   ·simp only [cond_true, Nat.testBit_two_pow]
    rw [decide_eq_false (Ne.symm e), Bool.or_false]
def Net.most (N : Net) (R C : Nat → Int) : Int := lj (fun s => N.f R C fun i => s.testBit i) (2 ^ N.nr)
theorem Net.most_le (hN : N.Ok) (S : Nat → Bool) : N.most R C ≤ N.f R C S := by
 have h := ucg (g := fun s => N.f R C fun i => s.testBit i) (k := 2 ^ N.nr) (s := pi S N.nr) (.inl (uek S _))
 refine Int.le_trans h (Int.le_of_eq (Net.f_congr hN fun i hi => ?_))
 rw [uel, decide_eq_true hi, Bool.true_and]
theorem Net.most_get (N : Net) (R C : Nat → Int) : ∃ S : Nat → Bool, N.most R C = N.f R C S := by
 obtain ⟨s, _, h⟩ := x4 (g := fun s => N.f R C fun i => s.testBit i) (2 ^ N.nr)
 exact ⟨fun i => s.testBit i, h⟩
def nv (n : Int) (R : Nat → Int) : Option Nat → Int
 | none => n
 | some i => min n (R i)
/-- the most on one page -/
def Net.alone (N : Net) (R C : Nat → Int) (j : Nat) : Int := nv (nv (C j) R (N.fr j)) R (N.sc j)
theorem ucf {n m : Int} {o : Option Nat} : m ≤ nv n R o ↔ m ≤ n ∧ ∀ i, o = some i → m ≤ R i := by
 cases o with
 | none => simp [nv]
 | some k => simp only [nv, Int.le_min, Option.some.injEq, forall_eq']
theorem Net.le_alone {j : Nat} {m : Int} : m ≤ N.alone R C j ↔ m ≤ C j ∧ ∀ i, N.by j i = true → m ≤ R i := by
 unfold Net.alone Net.by
 rw [ucf, ucf]
 simp only [Bool.or_eq_true, decide_eq_true_eq]
 exact ⟨fun ⟨⟨h1, h2⟩, h3⟩ => ⟨h1, fun i hi => hi.elim (h2 i) (h3 i)⟩, fun ⟨h1, h2⟩ => ⟨⟨h1, fun i hi => h2 i (.inl hi)⟩, fun i hi => h2 i (.inr hi)⟩⟩
/-- what remains, and so much less of it -/
theorem Net.less_le (hN : N.Ok) {j : Nat} (hj : j < N.np) {n : Int} (h0 : 0 ≤ n) (hn : n ≤ C j) : n + N.most (N.lessR R j n) (er C j) ≤ N.most R C := by
 obtain ⟨S, hS⟩ := N.most_get R C
 have h1 := Net.most_le (R := N.lessR R j n) (C := er C j) hN S
 rw [Net.f_less hN hj] at h1
 rw [hS]
 cases e : N.hit S j
 ·rw [e] at h1
  have e2 := e
  unfold Net.hit at e2
  rw [Bool.or_eq_false_iff] at e2
  simp only [cnt, e2.1, e2.2, cond_false] at h1
  omega
 ·rw [e] at h1
  unfold Net.hit at e
  rw [Bool.or_eq_true] at e
  unfold cnt at h1
  rcases e with q | q
  ·rw [q] at h1
   cases e2 : ob S (N.sc j) <;> rw [e2] at h1 <;> simp only [cond_true, cond_false] at h1 <;> omega
  ·rw [q] at h1
   cases e2 : ob S (N.fr j) <;> rw [e2] at h1 <;> simp only [cond_true, cond_false] at h1 <;> omega
/-- of each page there is a worst number of errors -/
theorem Net.greedy (hN : N.Ok) (hR : ∀ i, i < N.nr → 0 ≤ R i) (hC : ∀ j, j < N.np → 0 ≤ C j) {j : Nat} (hj : j < N.np) : ∃ n : Int, 0 ≤ n ∧ n ≤ N.alone R C j ∧ N.most R C ≤ n + N.most (N.lessR R j n) (er C j) := by
 -- the largest number that every set allows
 have hcj := hC j hj
 have hal : 0 ≤ N.alone R C j := Net.le_alone.2 ⟨hcj, fun i hi => hR i (hN.by_lt hi)⟩
 have key : ∀ n : Int, 0 ≤ n → n ≤ N.alone R C j → (∀ S, ob S (N.fr j) = true → ob S (N.sc j) = true → N.most R C ≤ N.f R C S - n) → (n = N.alone R C j ∨ ∃ S, ob S (N.fr j) = true ∧ ob S (N.sc j) = true ∧ N.f R C S - n = N.most R C) → N.most R C ≤ n + N.most (N.lessR R j n) (er C j) := by
  intro n h0 h1 h2 h3
  obtain ⟨S, hS⟩ := N.most_get (N.lessR R j n) (er C j)
  rw [hS, Net.f_less hN hj]
  have hm := Net.most_le (R := R) (C := C) hN S
  cases e1 : ob S (N.fr j) <;> cases e2 : ob S (N.sc j)
  ·have e : N.hit S j = false := by simp [Net.hit, e1, e2]
   simp only [cnt, e1, e2, e, cond_false]
   -- no reader of the page is in the set
   rcases h3 with h3 | ⟨T, t1, t2, t3⟩
   ·-- as much as can be: the page itself, or a reader
    by_cases hc : n = C j
    ·omega
    ·have h4 := (Net.le_alone.1 h1).1
     obtain ⟨i, hi, hri⟩ : ∃ i, N.by j i = true ∧ R i = n := by
      refine Classical.byContradiction fun hno => ?_
      have : n + 1 ≤ N.alone R C j := Net.le_alone.2 ⟨by omega, fun i hi => by
       have q1 := (Net.le_alone.1 h1).2 i hi
       have q2 : R i ≠ n := fun q => hno ⟨i, hi, q⟩
       omega⟩
      omega
     -- the set with that reader
     have h5 := Net.most_le (R := R) (C := C) hN (fun k => S k || decide (k = i))
     have h6 : N.f R C (fun k => S k || decide (k = i)) ≤ N.f R C S + R i - C j := by
      have g1 : sm N.nr (fun k => bif (S k || decide (k = i)) then R k else 0) ≤ sm N.nr (fun k => bif S k then R k else 0) + R i := by
       have := oq (hN.by_lt hi) (R i)
       rw [← this, ← ot]
       refine ng fun k hk => ?_
       have := hR k hk
       by_cases q : k = i
       ·subst q; cases S k <;> simp <;> omega
       ·cases S k <;> simp [q]
      have g2 : sm N.np (fun k => bif N.hit (fun k => S k || decide (k = i)) k then 0 else C k) ≤ sm N.np (fun k => bif N.hit S k then 0 else C k) - C j := by
       have := oq hj (C j)
       rw [← this, ← qj]
       refine ng fun k hk => ?_
       have hck := hC k hk
       have mono : N.hit S k = true → N.hit (fun k => S k || decide (k = i)) k = true := fun q => by
        obtain ⟨x, x1, x2⟩ := Net.hit_iff.1 q
        exact Net.hit_iff.2 ⟨x, x1, by simp [x2]⟩
       by_cases q : k = j
       ·subst q
        rw [show N.hit (fun k => S k || decide (k = i)) k = true from Net.hit_iff.2 ⟨i, hi, by simp⟩, e]
        simp
       ·rw [decide_eq_false q]
        cases q1 : N.hit S k
        ·cases N.hit (fun k => S k || decide (k = i)) k <;> simp <;> omega
        ·rw [mono q1]; simp
      unfold Net.f
      dsimp only
      omega
     omega
   ·-- crossed with a set that has both
    have hx := Net.cross (R := R) (C := er C j) hN (fun k hk => by unfold er; cases decide (k = j) <;> simp; exact hC k hk) S T
    have hsub : ∀ U : Nat → Bool, N.f R (er C j) U = N.f R C U - (bif N.hit U j then 0 else C j) := fun U => by
     have := Net.f_less (R := R) (C := C) hN hj 0 U
     have e0 : N.lessR R j 0 = R := by funext i; unfold Net.lessR; cases N.by j i <;> simp
     rw [e0] at this
     rw [this]
     unfold cnt
     cases ob U (N.fr j) <;> cases ob U (N.sc j) <;> simp
    rw [hsub, hsub, hsub, hsub, e, show N.hit T j = true by simp [Net.hit, t1]] at hx
    obtain ⟨a, ha⟩ : ∃ a, N.fr j = some a := by cases q : N.fr j with
     | none => rw [q] at t1; cases t1
     | some a => exact ⟨a, rfl⟩
    obtain ⟨b, hb⟩ : ∃ b, N.sc j = some b := by cases q : N.sc j with
     | none => rw [q] at t2; cases t2
     | some b => exact ⟨b, rfl⟩
    rw [ha] at t1
    rw [hb] at t2
    have hA : N.hit (l8 N.nF S T) j = true := by
     simp only [Net.hit, ha, ob, l8, decide_eq_true (hN.fr j a ha), cond_true]
     rw [show T a = true from t1]; simp
    have hB : N.hit (l7 N.nF S T) j = true := by
     have := hN.sc j b hb
     simp only [Net.hit, hb, ob, l7, decide_eq_false (show ¬ b < N.nF by omega), cond_false]
     rw [show T b = true from t2]; simp
    rw [hA, hB] at hx
    simp only [cond_true, cond_false] at hx
    have q1 := Net.most_le (R := R) (C := C) hN (l8 N.nF S T)
    have q2 := Net.most_le (R := R) (C := C) hN (l7 N.nF S T)
    omega
  ·have e : N.hit S j = true := by simp [Net.hit, e2]
   simp only [cnt, e1, e2, e, cond_false, cond_true]
   omega
  ·have e : N.hit S j = true := by simp [Net.hit, e1]
   simp only [cnt, e1, e2, e, cond_false, cond_true]
   omega
  ·have e : N.hit S j = true := by simp [Net.hit, e1]
   simp only [cnt, e1, e2, e, cond_true]
   have := h2 S e1 e2
   omega
 by_cases hb : ∀ S, ob S (N.fr j) = true → ob S (N.sc j) = true → N.most R C ≤ N.f R C S - N.alone R C j
 ·exact ⟨_, hal, Int.le_refl _, key _ hal (Int.le_refl _) hb (.inl rfl)⟩
 ·-- the qx of those that have both
  have : ∃ m : Int, (∃ S, ob S (N.fr j) = true ∧ ob S (N.sc j) = true ∧ N.f R C S = m) ∧ ∀ S, ob S (N.fr j) = true → ob S (N.sc j) = true → m ≤ N.f R C S := by
   obtain ⟨S0, s1, s2⟩ : ∃ S, ob S (N.fr j) = true ∧ ob S (N.sc j) = true := by
    refine Classical.byContradiction fun hno => hb fun S h1 h2 => absurd ⟨S, h1, h2⟩ hno
   have hlow : ∀ S, ob S (N.fr j) = true → ob S (N.sc j) = true → N.most R C ≤ N.f R C S := fun S _ _ => Net.most_le hN S
   generalize hd : (N.f R C S0 - N.most R C).toNat = d
   induction d using Nat.strongRecOn generalizing S0 with
   | _ d ih =>
    by_cases hmin : ∀ S, ob S (N.fr j) = true → ob S (N.sc j) = true → N.f R C S0 ≤ N.f R C S
    ·exact ⟨_, ⟨S0, s1, s2, rfl⟩, hmin⟩
    ·obtain ⟨S1, hS1⟩ := Classical.not_forall.1 hmin
     obtain ⟨t1, hS2⟩ := Classical.not_imp.1 hS1
     obtain ⟨t2, hS3⟩ := Classical.not_imp.1 hS2
     have hl1 := hlow S1 t1 t2
     have hl0 := hlow S0 s1 s2
     exact ih _ (by omega) S1 t1 t2 rfl
  obtain ⟨m, ⟨S, q1, q2, q3⟩, q4⟩ := this
  have hm := Net.most_le (R := R) (C := C) hN S
  have hlt : m - N.most R C < N.alone R C j := by
   refine Classical.byContradiction fun hno => hb fun T t1 t2 => ?_
   have := q4 T t1 t2
   omega
  exact ⟨m - N.most R C, by omega, by omega, key _ (by omega) (by omega) (fun T t1 t2 => by have := q4 T t1 t2; omega) (.inr ⟨S, q1, q2, by omega⟩)⟩
end
end Go.AB
namespace Go.PB
structure bu where
 id : Int
 miss : Int
 deriving DecidableEq
structure am where
 fr : Int
 to : Int
 fst : Int
 snd : Int
 found : List PlaceD
 well : List PlaceD
 deriving DecidableEq
structure ah where
 text : ai
 firsts : List bu
 seconds : List bu
 pages : List am
 deriving DecidableEq
/-- proofs at work -/
structure cy where
 p : ah
 words : List Int
 all : List (List PlaceD)
 both : List (List PlaceD)
structure bq where
 lo : Int
 hi : Int
 deriving DecidableEq
end Go.PB
namespace Go.AB
open Go Go.RowKit
open Go.AB.Enc (cells)
open Go.PB (ba ai PlaceD bh bj bi bu am ah cy bq)
instance : Enc bu := ⟨fun x => [.v (.int .i64 x.id), .v (.int .i64 x.miss)], 2, fun _ => rfl, fun m x c h => by
 simp only [List.mem_cons, List.not_mem_nil, or_false] at h; rcases h with rfl | rfl <;> exact .v, fun x c h => by
 simp only [List.mem_cons, List.not_mem_nil, or_false] at h; rcases h with rfl | rfl <;> rfl⟩
instance : Enc bq := ⟨fun x => [.v (.int .i64 x.lo), .v (.int .i64 x.hi)], 2, fun _ => rfl, fun m x c h => by
 simp only [List.mem_cons, List.not_mem_nil, or_false] at h; rcases h with rfl | rfl <;> exact .v, fun x c h => by
 simp only [List.mem_cons, List.not_mem_nil, or_false] at h; rcases h with rfl | rfl <;> rfl⟩
instance : Enc am := ⟨fun x => [.v (.int .i64 x.fr), .v (.int .i64 x.to), .v (.int .i64 x.fst), .v (.int .i64 x.snd), lst x.found, lst x.well], 6, fun _ => rfl, fun m x c h => by
 simp only [List.mem_cons, List.not_mem_nil, or_false] at h
 rcases h with rfl | rfl | rfl | rfl | rfl | rfl
 ·exact .v
 ·exact .v
 ·exact .v
 ·exact .v
 ·exact ca m _
 ·exact ca m _, fun x c h => by
 simp only [List.mem_cons, List.not_mem_nil, or_false] at h; rcases h with rfl | rfl | rfl | rfl | rfl | rfl <;> rfl⟩
instance : Enc ah := ⟨fun x => [lst x.text, lst x.firsts, lst x.seconds, lst x.pages], 4, fun _ => rfl, fun m x c h => by
 simp only [List.mem_cons, List.not_mem_nil, or_false] at h
 rcases h with rfl | rfl | rfl | rfl
 ·exact ca m _
 ·exact ca m _
 ·exact ca m _
 ·exact ca m _, fun x c h => by
 simp only [List.mem_cons, List.not_mem_nil, or_false] at h; rcases h with rfl | rfl | rfl | rfl <;> rfl⟩
/-! ### Lines of a text -/
/-- the number of a chapter's first line -/
def fu (t : ai) (k : Nat) : Nat := ((t.take k).map fun c => c.lines.length).sum
theorem uaj (t : ai) : fu t 0 = 0 := by simp [fu]
theorem ru {t : ai} {k : Nat} {c : ba} (h : t[k]? = some c) : fu t (k + 1) = fu t k + c.lines.length := by
 unfold fu
 rw [List.take_add_one, h]
 simp
def l3 (t : ai) : Nat := fu t t.length
/-- the number of the line of a place -/
def pz (t : ai) (q : PlaceD) : Int := q.ln + (fu t q.ch.toNat : Int)
def fl (t : ai) (x : am) (q : PlaceD) : Bool := inB (pz t q) x.fr x.to
/-! ### Valid proofs -/
def mc (a b : PlaceD) : Bool := decide (fe (c7 a) (c7 b) < 0)
/-- a place of a list may stand where it does -/
def jj (t : ai) (x : am) (l : List PlaceD) (i : Nat) : Bool := match l[i]? with
 | none => true
 | some q => fo t q && fl t x q && (decide (i = 0) || match l[i - 1]? with | none => true | some a => mc a q)
def dw (t : ai) (x : am) (l : List PlaceD) (n : Nat) : Bool := (List.range n).all (jj t x l)
theorem gz (t : ai) (x : am) (l : List PlaceD) (n : Nat) : dw t x l (n + 1) = (dw t x l n && jj t x l n) := by
 unfold dw
 rw [List.range_succ, List.all_append]
 simp
def g5 (t : ai) (x : am) (r : Int) (l : List PlaceD) : Bool := (decide (0 ≤ r) || decide (l = [])) && dw t x l l.length
def gr (r : bu) : Bool := inB r.id 0 9999 && inB r.miss 0 90
def jn (p : ah) : Bool := decide (p.firsts.length ≤ 3) && decide (p.seconds.length ≤ 3) && (p.firsts ++ p.seconds).all gr && decide ((p.firsts ++ p.seconds).map (·.id)).Nodup
def lh (p : ah) (last : Int) (x : am) : Bool := decide (last < x.fr) && decide (x.fr ≤ x.to) && decide (x.to < (l3 p.text : Int)) && inB x.fst (-1) ((p.firsts.length : Int) - 1) && g5 p.text x x.fst x.found && inB x.snd (-1) ((p.seconds.length : Int) - 1) && g5 p.text x x.snd x.well
/-- the last line ahead of a page -/
def ig (l : List am) : Nat → Int
 | 0 => -1
 | i + 1 => match l[i]? with | some x => x.to | none => -1
def r8 (p : ah) (i : Nat) : Bool := match p.pages[i]? with
 | none => true
 | some x => lh p (ig p.pages i) x
def pt (p : ah) (n : Nat) : Bool := (List.range n).all (r8 p)
theorem ubk (p : ah) (n : Nat) : pt p (n + 1) = (pt p n && r8 p n) := by
 unfold pt
 rw [List.range_succ, List.all_append]
 simp
def f3 (p : ah) : Bool := jn p && decide (p.pages.length ≤ 8) && pt p p.pages.length
def cx (p : ah) : Int := bif dp p.text then (bif f3 p then 0 else 90) else 10
/-! ### What is found on a page -/
def cp (t : ai) (x : am) : List PlaceD := (dm t).filter fun q => decide (q ∈ x.found) || decide (q ∈ x.well)
def c8 (t : ai) (x : am) : List PlaceD := (dm t).filter fun q => decide (q ∈ x.found) && decide (q ∈ x.well)
def dn (t : ai) (x : am) : Nat := ((dm t).filter (fl t x)).length
/-! ### Bounds of readers -/
def d9 (b : Bool) (x : am) : Int := bif b then x.snd else x.fst
def dl (b : Bool) (x : am) : List PlaceD := bif b then x.well else x.found
def du (p : ah) (b : Bool) : List bu := bif b then p.seconds else p.firsts
def ct (l : List am) (g : am → Nat) : Nat := (l.map g).sum
theorem lw {l : List am} {k : Nat} {x : am} {g : am → Nat} (h : l[k]? = some x) : ct (l.take (k + 1)) g = ct (l.take k) g + g x := by
 unfold ct
 rw [List.take_add_one, h]
 simp
def dg (b : Bool) (i : Int) (x : am) : Nat := bif decide (d9 b x = i) then (dl b x).length else 0
def dv (t : ai) (b : Bool) (i : Int) (x : am) : Nat := bif decide (d9 b x = i) then (cp t x).length else 0
def ky (p : ah) (b : Bool) (i : Nat) : Int := match (du p b)[i]? with | some r => r.miss | none => 0
def jt (p : ah) (b : Bool) (i : Nat) : Int := 100 * (ct p.pages (dg b i) : Int) / (100 - ky p b i)
def k7 (p : ah) (b : Bool) (i : Nat) : Int := jt p b i - (ct p.pages (dv p.text b i) : Int)
/-! ### What may remain -/
def cj (p : ah) : Nat := p.firsts.length + p.seconds.length
def cw (p : ah) (i : Nat) : Int := bif decide (i < p.firsts.length) then k7 p false i else k7 p true (i - p.firsts.length)
def tj (t : ai) (x : am) : Int := (dn t x : Int) - ((cp t x).length : Int)
def g8 (p : ah) : Bool := (List.range (cj p)).all fun i => decide (0 ≤ cw p i)
def bp (p : ah) : Net where
 nF := p.firsts.length
 nr := cj p
 np := p.pages.length
 fr := fun j => match p.pages[j]? with | some x => (bif decide (0 ≤ x.fst) then some x.fst.toNat else none) | none => none
 sc := fun j => match p.pages[j]? with | some x => (bif decide (0 ≤ x.snd) then some (p.firsts.length + x.snd.toNat) else none) | none => none
def g4 (l : List Int) (i : Nat) : Int := (l[i]?).getD 0
end Go.AB
namespace Go.AB
/-- so much on a page is the most of what loses nothing -/
structure Net.Pick (N : Net) (R C : Nat → Int) (j : Nat) (n : Int) : Prop where
 nn : 0 ≤ n
 le : n ≤ N.alone R C j
 ok : N.most R C ≤ n + N.most (N.lessR R j n) (er C j)
 max : ∀ m, n < m → m ≤ N.alone R C j → ¬ N.most R C ≤ m + N.most (N.lessR R j m) (er C j)
section
variable {N : Net} {R C : Nat → Int}
theorem Net.Pick.uniq {j : Nat} {n m : Int} (h : N.Pick R C j n) (k : N.Pick R C j m) : n = m := by
 rcases Int.lt_trichotomy n m with q | q | q
 ·exact absurd k.ok (h.max m q k.le)
 ·exact q
 ·exact absurd h.ok (k.max n q h.le)
theorem Net.pick_ex (hN : N.Ok) (hR : ∀ i, i < N.nr → 0 ≤ R i) (hC : ∀ j, j < N.np → 0 ≤ C j) {j : Nat} (hj : j < N.np) : ∃ n, N.Pick R C j n := by
 obtain ⟨n, h1, h2, h3⟩ := Net.greedy hN hR hC hj
 generalize hd : (N.alone R C j - n).toNat = d
 induction d using Nat.strongRecOn generalizing n with
 | _ d ih =>
  by_cases hmax : ∀ m, n < m → m ≤ N.alone R C j → ¬ N.most R C ≤ m + N.most (N.lessR R j m) (er C j)
  ·exact ⟨n, h1, h2, h3, hmax⟩
  ·obtain ⟨m, hm⟩ := Classical.not_forall.1 hmax
   obtain ⟨q1, hm⟩ := Classical.not_imp.1 hm
   obtain ⟨q2, hm⟩ := Classical.not_imp.1 hm
   exact ih _ (by omega) m (by omega) q2 (Classical.not_not.1 hm) rfl
open Classical in
noncomputable def Net.pick (N : Net) (R C : Nat → Int) (j : Nat) : Int := if h : ∃ n, N.Pick R C j n then h.choose else 0
theorem Net.pick_spec {j : Nat} (h : ∃ n, N.Pick R C j n) : N.Pick R C j (N.pick R C j) := by
 unfold Net.pick
 rw [dif_pos h]
 exact h.choose_spec
theorem Net.pick_eq {j : Nat} {n : Int} (h : N.Pick R C j n) : N.pick R C j = n := (Net.pick_spec ⟨n, h⟩).uniq h
/-- what may remain ahead of a page, by the worst truth -/
noncomputable def Net.room (N : Net) (R C : Nat → Int) : Nat → (Nat → Int) × (Nat → Int)
 | 0 => (R, C)
 | i + 1 => (N.lessR (N.room R C i).1 i (N.pick (N.room R C i).1 (N.room R C i).2 i), er (N.room R C i).2 i)
/-- the worst truth -/
noncomputable def Net.worst (N : Net) (R C : Nat → Int) (i : Nat) : Int := N.pick (N.room R C i).1 (N.room R C i).2 i
theorem Net.room_succ (i : Nat) : N.room R C (i + 1) = (N.lessR (N.room R C i).1 i (N.worst R C i), er (N.room R C i).2 i) := rfl
structure Net.RoomOk (N : Net) (R C : Nat → Int) (i : Nat) : Prop where
 rnn : ∀ r, r < N.nr → 0 ≤ (N.room R C i).1 r
 cnn : ∀ j, j < N.np → 0 ≤ (N.room R C i).2 j
 all : N.most (N.room R C i).1 (N.room R C i).2 = N.most R C - sm i (N.worst R C)
 caps : ∀ j, (N.room R C i).2 j = bif decide (j < i) then 0 else C j
 rds : ∀ r, (N.room R C i).1 r = R r - sm i (fun j => bif N.by j r then N.worst R C j else 0)
theorem Net.room_ok (hN : N.Ok) (hR : ∀ i, i < N.nr → 0 ≤ R i) (hC : ∀ j, j < N.np → 0 ≤ C j) : ∀ i, i ≤ N.np → N.RoomOk R C i
 | 0, _ => ⟨hR, hC, by simp [Net.room, sm], fun j => by simp [Net.room], fun r => by simp [Net.room, sm]⟩
 | i + 1, hi => by
  have h := Net.room_ok hN hR hC i (by omega)
  have hp : N.Pick (N.room R C i).1 (N.room R C i).2 i (N.worst R C i) := Net.pick_spec (Net.pick_ex hN h.rnn h.cnn (by omega))
  have hal := Net.le_alone.1 hp.le
  have hle := Net.less_le (R := (N.room R C i).1) (C := (N.room R C i).2) hN (show i < N.np by omega) hp.nn hal.1
  have hok := hp.ok
  refine ⟨fun r hr => ?_, fun j hj => ?_, ?_, fun j => ?_, fun r => ?_⟩
  ·rw [Net.room_succ]
   show 0 ≤ N.lessR _ i _ r
   unfold Net.lessR
   cases hb : N.by i r
   ·exact h.rnn r hr
   ·have := hal.2 r hb
    simp only [cond_true]; omega
  ·rw [Net.room_succ]
   show 0 ≤ er _ i j
   unfold er
   cases decide (j = i)
   ·exact h.cnn j hj
   ·exact Int.le_refl _
  ·rw [Net.room_succ]
   have := h.all
   simp only [sm]
   show N.most (N.lessR _ i _) (er _ i) = _
   omega
  ·rw [Net.room_succ]
   show er _ i j = _
   unfold er
   rw [h.caps j]
   by_cases e : j = i
   ·subst e; simp
   ·rw [decide_eq_false e, cond_false, show decide (j < i + 1) = decide (j < i) by rw [decide_eq_decide]; omega]
  ·rw [Net.room_succ]
   show N.lessR _ i _ r = _
   unfold Net.lessR
   rw [h.rds r]
   simp only [sm]
   cases N.by i r <;> simp <;> omega
theorem Net.worst_pick (hN : N.Ok) (hR : ∀ i, i < N.nr → 0 ≤ R i) (hC : ∀ j, j < N.np → 0 ≤ C j) {i : Nat} (hi : i < N.np) : N.Pick (N.room R C i).1 (N.room R C i).2 i (N.worst R C i) := by
 have h := Net.room_ok hN hR hC i (by omega)
 exact Net.pick_spec (Net.pick_ex hN h.rnn h.cnn hi)
theorem Net.most_nn (hR : ∀ i, i < N.nr → 0 ≤ R i) (hC : ∀ j, j < N.np → 0 ≤ C j) : 0 ≤ N.most R C := by
 obtain ⟨S, hS⟩ := N.most_get R C
 rw [hS]
 have h1 : 0 ≤ sm N.nr (fun i => bif S i then R i else 0) := ui fun i hi => by cases S i; exact Int.le_refl _; exact hR i hi
 have h2 : 0 ≤ sm N.np (fun j => bif N.hit S j then 0 else C j) := ui fun j hj => by cases N.hit S j; exact hC j hj; exact Int.le_refl _
 unfold Net.f
 omega
theorem Net.worst_sum (hN : N.Ok) (hR : ∀ i, i < N.nr → 0 ≤ R i) (hC : ∀ j, j < N.np → 0 ≤ C j) : sm N.np (N.worst R C) = N.most R C := by
 have h := Net.room_ok hN hR hC N.np (Nat.le_refl _)
 have h1 := Net.most_nn h.rnn h.cnn
 have h2 := Net.most_le (R := (N.room R C N.np).1) (C := (N.room R C N.np).2) hN (fun _ => false)
 have h3 : N.f (N.room R C N.np).1 (N.room R C N.np).2 (fun _ => false) = 0 := by
  have e1 : sm N.nr (fun i => bif (fun _ : Nat => false) i then (N.room R C N.np).1 i else 0) = 0 := (jh (h := fun _ => 0) fun i _ => rfl).trans (mj _)
  have e2 : sm N.np (fun j => bif N.hit (fun _ => false) j then 0 else (N.room R C N.np).2 j) = 0 := (jh (h := fun _ => 0) fun j hj => by
   rw [h.caps j, decide_eq_true hj]
   cases N.hit (fun _ => false) j <;> rfl).trans (mj _)
  unfold Net.f
  rw [e1, e2]; rfl
 have := h.all
 omega
theorem Net.worst_feas (hN : N.Ok) (hR : ∀ i, i < N.nr → 0 ≤ R i) (hC : ∀ j, j < N.np → 0 ≤ C j) : N.Feas R C (N.worst R C) := by
 refine ⟨fun j hj => ?_, fun r hr => ?_⟩
 ·have hp := Net.worst_pick hN hR hC hj
  have h := Net.room_ok hN hR hC j (by omega)
  have := (Net.le_alone.1 hp.le).1
  rw [h.caps j, decide_eq_false (Nat.lt_irrefl _), cond_false] at this
  exact ⟨hp.nn, this⟩
 ·have h := Net.room_ok hN hR hC N.np (Nat.le_refl _)
  have h1 := h.rnn r hr
  rw [h.rds r] at h1
  omega
theorem Net.feas_alone {y : Nat → Int} (hN : N.Ok) (hy : N.Feas R C y) {j : Nat} (hj : j < N.np) : y j ≤ N.alone R C j := Net.le_alone.2 ⟨(hy.page j hj).2, fun i hi => by
 have h1 := hy.rd i (hN.by_lt hi)
 have h2 := uan (n := N.np) (k := j) (g := fun k => bif N.by k i then y k else 0) hj fun k hk => by
  cases N.by k i
  ·exact Int.le_refl _
  ·exact (hy.page k hk).1
 rw [hi] at h2
 exact Int.le_trans h2 h1⟩
/-- no truth has more that remains -/
theorem Net.feas_most (hN : N.Ok) {y : Nat → Int} (hy : N.Feas R C y) : sm N.np y ≤ N.most R C := by
 obtain ⟨S, hS⟩ := N.most_get R C
 rw [hS]
 exact hy.le hN S
end
end Go.AB
namespace Go.AB
open Go Go.RowKit
open Go.AB.Enc (cells)
open Go.PB (ba ai PlaceD bh bj bi bu am ah cy bq)
theorem ugx (g : am → Nat) : ∀ l : List am, ((ct l g : Nat) : Int) = sm l.length (fun j => match l[j]? with | some x => (g x : Int) | none => 0) := by
 intro l
 have key : ∀ k, k ≤ l.length → ((ct (l.take k) g : Nat) : Int) = sm k (fun j => match l[j]? with | some x => (g x : Int) | none => 0) := by
  intro k
  induction k with
  | zero => intro _; rfl
  | succ k ih =>
   intro hk
   have hx : l[k]? = some l[k] := List.getElem?_eq_getElem (by omega)
   rw [lw hx]
   simp only [sm, hx]
   have := ih (by omega)
   omega
 have := key l.length (Nat.le_refl _)
 rwa [List.take_length] at this
/-! ### What valid proofs are -/
structure ei (p : ah) : Prop where
 text : dp p.text = true
 nf : p.firsts.length ≤ 3
 ns : p.seconds.length ≤ 3
 np : p.pages.length ≤ 8
 rd : ∀ r ∈ p.firsts ++ p.seconds, gr r = true
 page : ∀ (j : Nat) (x : am), p.pages[j]? = some x → lh p (ig p.pages j) x = true
theorem lm {p : ah} (h : cx p = 0) : ei p ∧ f3 p = true := by
 unfold cx at h
 cases ht : dp p.text
 ·rw [ht] at h; simp at h
 ·cases hp : f3 p
  ·rw [ht, hp] at h; simp at h
  ·refine ⟨?_, rfl⟩
   unfold f3 jn at hp
   simp only [Bool.and_eq_true, decide_eq_true_eq] at hp
   obtain ⟨⟨⟨⟨⟨h1, h2⟩, h3⟩, _⟩, h5⟩, h6⟩ := hp
   refine ⟨ht, h1, h2, h5, fun r hr => List.all_eq_true.1 h3 r hr, fun j x hx => ?_⟩
   have hj := (List.getElem?_eq_some_iff.1 hx).1
   have := List.all_eq_true.1 h6 j (List.mem_range.2 hj)
   unfold r8 at this
   rw [hx] at this
   exact this
structure m9 (p : ah) (last : Int) (x : am) : Prop where
 fr : last < x.fr
 to : x.fr ≤ x.to
 lt : x.to < (l3 p.text : Int)
 fst : -1 ≤ x.fst ∧ x.fst ≤ (p.firsts.length : Int) - 1
 snd : -1 ≤ x.snd ∧ x.snd ≤ (p.seconds.length : Int) - 1
 found : g5 p.text x x.fst x.found = true
 well : g5 p.text x x.snd x.well = true
theorem pageB_true {p : ah} {last : Int} {x : am} : lh p last x = true ↔ m9 p last x := by
 unfold lh
 simp only [Bool.and_eq_true, decide_eq_true_eq, inB_true]
 exact ⟨fun ⟨⟨⟨⟨⟨⟨h1, h2⟩, h3⟩, h4⟩, h5⟩, h6⟩, h7⟩ => ⟨h1, h2, h3, h4, h6, h5, h7⟩, fun h => ⟨⟨⟨⟨⟨⟨h.fr, h.to⟩, h.lt⟩, h.fst⟩, h.found⟩, h.snd⟩, h.well⟩⟩
theorem l5 {t : ai} {x : am} {r : Int} {l : List PlaceD} (h : g5 t x r l = true) {q : PlaceD} (hq : q ∈ l) : fo t q = true ∧ fl t x q = true := by
 unfold g5 at h
 rw [Bool.and_eq_true] at h
 obtain ⟨i, hi⟩ := List.getElem?_of_mem hq
 have := List.all_eq_true.1 h.2 i (List.mem_range.2 (List.getElem?_eq_some_iff.1 hi).1)
 unfold jj at this
 rw [hi] at this
 simp only [Bool.and_eq_true] at this
 exact this.1
theorem ulu {t : ai} {x : am} {r : Int} {l : List PlaceD} (h : g5 t x r l = true) {i : Nat} {a q : PlaceD} (ha : l[i]? = some a) (hq : l[i + 1]? = some q) : fe (c7 a) (c7 q) < 0 := by
 unfold g5 at h
 rw [Bool.and_eq_true] at h
 have := List.all_eq_true.1 h.2 (i + 1) (List.mem_range.2 (List.getElem?_eq_some_iff.1 hq).1)
 unfold jj at this
 rw [hq, Nat.add_sub_cancel, ha] at this
 have h9 : (fo t q = true ∧ fl t x q = true) ∧ fe (c7 a) (c7 q) < 0 := by simpa [mc] using this
 exact h9.2
theorem uep {a b c : PlaceD} (h : fe (c7 a) (c7 b) < 0) (k : fe (c7 b) (c7 c) < 0) : fe (c7 a) (c7 c) < 0 := by
 rw [m6 (by rfl)] at h k ⊢
 exact qt h k
theorem zc (a : PlaceD) : ¬ fe (c7 a) (c7 a) < 0 := by
 rw [m6 (by rfl)]
 exact o8 _
theorem ug3 {l : List PlaceD} (h : ∀ (i : Nat) (a q : PlaceD), l[i]? = some a → l[i + 1]? = some q → fe (c7 a) (c7 q) < 0) : l.Pairwise fun a b => fe (c7 a) (c7 b) < 0 := by
 rw [List.pairwise_iff_getElem]
 intro i j hi hj hij
 have key : ∀ d (hd : i + 1 + d < l.length), fe (c7 l[i]) (c7 l[i + 1 + d]) < 0 := by
  intro d
  induction d with
  | zero => intro hd; exact h i _ _ (List.getElem?_eq_getElem hi) (List.getElem?_eq_getElem hd)
  | succ d ih =>
   intro hd
   exact uep (ih (by omega)) (h (i + 1 + d) _ _ (List.getElem?_eq_getElem (by omega)) (List.getElem?_eq_getElem hd))
 have := key (j - (i + 1)) (by omega)
 simpa [show i + 1 + (j - (i + 1)) = j by omega] using this
theorem vq {t : ai} {x : am} {r : Int} {l : List PlaceD} (h : g5 t x r l = true) : l.Pairwise fun a b => fe (c7 a) (c7 b) < 0 := ug3 fun _ _ _ ha hq => ulu h ha hq
/-- lists in order, with the same places -/
theorem uh : ∀ {l m : List PlaceD}, l.Pairwise (fun a b => fe (c7 a) (c7 b) < 0) → m.Pairwise (fun a b => fe (c7 a) (c7 b) < 0) → (∀ q, q ∈ l ↔ q ∈ m) → l = m
 | [], [], _, _, _ => rfl
 | [], b :: m, _, _, h => by have := (h b).2 (List.mem_cons_self ..); cases this
 | a :: l, [], _, _, h => by have := (h a).1 (List.mem_cons_self ..); cases this
 | a :: l, b :: m, h1, h2, h => by
  rw [List.pairwise_cons] at h1 h2
  have hab : a = b := by
   have p1 := (h a).1 (List.mem_cons_self ..)
   have p2 := (h b).2 (List.mem_cons_self ..)
   rw [List.mem_cons] at p1 p2
   rcases p1 with rfl | p1
   ·rfl
   ·rcases p2 with rfl | p2
    ·rfl
    ·exact absurd (uep (h1.1 b p2) (h2.1 a p1)) (zc a)
  subst hab
  rw [uh h1.2 h2.2 fun q => ?_]
  constructor
  ·intro hq
   have := (h q).1 (List.mem_cons_of_mem _ hq)
   rw [List.mem_cons] at this
   rcases this with rfl | this
   ·exact absurd (h1.1 q hq) (zc q)
   ·exact this
  ·intro hq
   have := (h q).2 (List.mem_cons_of_mem _ hq)
   rw [List.mem_cons] at this
   rcases this with rfl | this
   ·exact absurd (h2.1 q hq) (zc q)
   ·exact this
/-! ### Pages between readers -/
def mo (p : ah) (j : Nat) (g : am → Int) : Int := match p.pages[j]? with | some x => g x | none => 0
theorem oz {p : ah} {j : Nat} {x : am} (h : p.pages[j]? = some x) (g : am → Int) : mo p j g = g x := by unfold mo; rw [h]
def c5 (p : ah) (j : Nat) : Int := mo p j (tj p.text)
def ef (p : ah) (j : Nat) : Int := mo p j fun x => ((cp p.text x).length : Int)
def kh (p : ah) (j : Nat) : Int := mo p j fun x => (dn p.text x : Int)
theorem mr {p : ah} (h : ei p) : (bp p).Ok := by
 refine ⟨Nat.le_add_right _ _, fun j i hi => ?_, fun j i hi => ?_⟩
 ·simp only [bp] at hi ⊢
  cases hx : p.pages[j]? with
  | none => rw [hx] at hi; cases hi
  | some x =>
   rw [hx] at hi
   have hp := (pageB_true.1 (h.page j x hx)).fst
   dsimp only at hi
   by_cases q : 0 ≤ x.fst
   ·rw [decide_eq_true q, cond_true, Option.some.injEq] at hi
    omega
   ·rw [decide_eq_false q] at hi; cases hi
 ·simp only [bp, cj] at hi ⊢
  cases hx : p.pages[j]? with
  | none => rw [hx] at hi; cases hi
  | some x =>
   rw [hx] at hi
   have hp := (pageB_true.1 (h.page j x hx)).snd
   dsimp only at hi
   by_cases q : 0 ≤ x.snd
   ·rw [decide_eq_true q, cond_true, Option.some.injEq] at hi
    omega
   ·rw [decide_eq_false q] at hi; cases hi
/-- the readers of a page, as the program lists them -/
def dt (p : ah) (x : am) : List Int := (bif decide (0 ≤ x.fst) then [x.fst] else []) ++ (bif decide (0 ≤ x.snd) then [(p.firsts.length : Int) + x.snd] else [])
theorem uli {p : ah} {j : Nat} {x : am} (hx : p.pages[j]? = some x) (S : Nat → Bool) : (bp p).hit S j = (dt p x).any fun k => S k.toNat := by
 simp only [Net.hit, bp, hx, dt, List.any_append]
 congr 1
 ·cases decide (0 ≤ x.fst) <;> simp [ob]
 ·by_cases q : 0 ≤ x.snd
  ·simp [q, ob, show ((p.firsts.length : Int) + x.snd).toNat = p.firsts.length + x.snd.toNat by omega]
  ·simp [q, ob]
theorem rf {p : ah} (h : ei p) {j : Nat} {x : am} (hx : p.pages[j]? = some x) (i : Nat) : (bp p).by j i = bif decide (i < p.firsts.length) then decide (d9 false x = (i : Int)) else decide (d9 true x = ((i - p.firsts.length : Nat) : Int)) := by
 have hp := pageB_true.1 (h.page j x hx)
 have h1 := hp.fst
 have h2 := hp.snd
 simp only [Net.by, bp, hx]
 rw [Bool.eq_iff_iff]
 by_cases hi : i < p.firsts.length
 ·rw [decide_eq_true hi, cond_true, Bool.or_eq_true, decide_eq_true_eq, decide_eq_true_eq, decide_eq_true_eq]
  show _ ↔ x.fst = (i : Int)
  constructor
  ·rintro (q | q)
   ·by_cases z : 0 ≤ x.fst
    ·rw [decide_eq_true z, cond_true, Option.some.injEq] at q; omega
    ·rw [decide_eq_false z] at q; cases q
   ·by_cases z : 0 ≤ x.snd
    ·rw [decide_eq_true z, cond_true, Option.some.injEq] at q; omega
    ·rw [decide_eq_false z] at q; cases q
  ·intro q
   left
   rw [decide_eq_true (show 0 ≤ x.fst by omega), cond_true, Option.some.injEq]
   omega
 ·rw [decide_eq_false hi, cond_false, Bool.or_eq_true, decide_eq_true_eq, decide_eq_true_eq, decide_eq_true_eq]
  show _ ↔ x.snd = ((i - p.firsts.length : Nat) : Int)
  constructor
  ·rintro (q | q)
   ·by_cases z : 0 ≤ x.fst
    ·rw [decide_eq_true z, cond_true, Option.some.injEq] at q; omega
    ·rw [decide_eq_false z] at q; cases q
   ·by_cases z : 0 ≤ x.snd
    ·rw [decide_eq_true z, cond_true, Option.some.injEq] at q; omega
    ·rw [decide_eq_false z] at q; cases q
  ·intro q
   right
   rw [decide_eq_true (show 0 ≤ x.snd by omega), cond_true, Option.some.injEq]
   omega
theorem uln {p : ah} {last : Int} {x : am} (h : m9 p last x) : (cp p.text x).length ≤ dn p.text x := by
 unfold cp dn
 rw [← List.countP_eq_length_filter, ← List.countP_eq_length_filter]
 refine List.countP_mono_left fun q _ hq => ?_
 rw [Bool.or_eq_true, decide_eq_true_eq, decide_eq_true_eq] at hq
 rcases hq with hq | hq
 ·exact (l5 h.found hq).2
 ·exact (l5 h.well hq).2
theorem p7 {p : ah} (h : ei p) (j : Nat) : 0 ≤ c5 p j := by
 unfold c5 mo
 cases hx : p.pages[j]? with
 | none => exact Int.le_refl _
 | some x =>
  have := uln (pageB_true.1 (h.page j x hx))
  show 0 ≤ tj p.text x
  unfold tj
  omega
def kf (p : ah) (i : Nat) : Int := bif decide (i < p.firsts.length) then jt p false i else jt p true (i - p.firsts.length)
/-- of the bound of a reader is left what is not told -/
theorem ucr {p : ah} (h : ei p) (i : Nat) : cw p i = kf p i - sm p.pages.length (fun j => bif (bp p).by j i then ef p j else 0) := by
 have key : ∀ (b : Bool) (k : Int), (∀ (j : Nat) (x : am), p.pages[j]? = some x → (bp p).by j i = decide (d9 b x = k)) → ((ct p.pages (dv p.text b k) : Nat) : Int) = sm p.pages.length (fun j => bif (bp p).by j i then ef p j else 0) := fun b k hb => by
  rw [ugx]
  refine jh fun j hj => ?_
  have hx : p.pages[j]? = some p.pages[j] := List.getElem?_eq_getElem hj
  rw [hb j _ hx]
  unfold ef
  rw [oz hx, hx]
  dsimp only
  unfold dv
  cases decide (d9 b p.pages[j] = k) <;> rfl
 unfold cw kf
 by_cases hi : i < p.firsts.length
 ·rw [decide_eq_true hi, cond_true, cond_true]
  unfold k7
  rw [key false i fun j x hx => by rw [rf h hx, decide_eq_true hi, cond_true]]
 ·rw [decide_eq_false hi, cond_false, cond_false]
  unfold k7
  rw [key true _ fun j x hx => by rw [rf h hx, decide_eq_false hi, cond_false]]
/-- errors on all pages that are a truth -/
def i7 (p : ah) (es : List Int) : Bool := decide (es.length = p.pages.length) && (List.range p.pages.length).all (fun j => inB (g4 es j) (ef p j) (kh p j)) && (List.range (cj p)).all fun i => decide (sm p.pages.length (fun j => bif (bp p).by j i then g4 es j else 0) ≤ kf p i)
theorem ugh {p : ah} (h : ei p) {es : List Int} : i7 p es = true ↔ es.length = p.pages.length ∧ (bp p).Feas (cw p) (c5 p) (fun j => g4 es j - ef p j) := by
 unfold i7
 simp only [Bool.and_eq_true, decide_eq_true_eq, List.all_eq_true, List.mem_range, inB_true]
 have hcap : ∀ j, j < p.pages.length → c5 p j = kh p j - ef p j := fun j hj => by
  have hx : p.pages[j]? = some p.pages[j] := List.getElem?_eq_getElem hj
  unfold c5 kh ef
  rw [oz hx, oz hx, oz hx]
  rfl
 have hsub : ∀ i, sm p.pages.length (fun j => bif (bp p).by j i then g4 es j - ef p j else 0) = sm p.pages.length (fun j => bif (bp p).by j i then g4 es j else 0) - sm p.pages.length (fun j => bif (bp p).by j i then ef p j else 0) := fun i => by
  rw [← qj]
  exact jh fun j _ => by cases (bp p).by j i <;> simp
 constructor
 ·rintro ⟨⟨h1, h2⟩, h3⟩
  refine ⟨h1, fun j hj => ?_, fun i hi => ?_⟩
  ·have := h2 j hj
   have := hcap j hj
   omega
  ·have := h3 i hi
   have e := ucr h i
   have := hsub i
   show sm p.pages.length _ ≤ _
   omega
 ·rintro ⟨h1, h2⟩
  refine ⟨⟨h1, fun j hj => ?_⟩, fun i hi => ?_⟩
  ·have := h2.page j hj
   have := hcap j hj
   omega
  ·have q : sm p.pages.length (fun j => bif (bp p).by j i then g4 es j - ef p j else 0) ≤ cw p i := h2.rd i hi
   have e := ucr h i
   have := hsub i
   omega
end Go.AB
namespace Go.AB
open Go Go.RowKit
open Go.AB.Enc (cells)
/-- the numbers of a set -/
def u7 (n s : Nat) : List Nat := (List.range n).filter fun i => s.testBit i
def e9 (n s : Nat) : List Int := (u7 n s).map fun i : Nat => (i : Int)
theorem uci (n s : Nat) : e9 (n + 1) s = e9 n s ++ (bif s.testBit n then [(n : Int)] else []) := by
 unfold e9 u7
 rw [List.range_succ, List.filter_append, List.map_append]
 cases h : s.testBit n <;> simp [h]
theorem sq (n s : Nat) : (e9 n s).length ≤ n := by
 unfold e9 u7
 rw [List.length_map]
 have := List.length_filter_le (fun i => s.testBit i) (List.range n)
 rwa [List.length_range] at this
theorem membersL_mem {n s : Nat} {x : Int} : x ∈ e9 n s ↔ ∃ i : Nat, x = (i : Int) ∧ i < n ∧ s.testBit i = true := by
 unfold e9 u7
 simp only [List.mem_map, List.mem_filter, List.mem_range]
 exact ⟨fun ⟨i, ⟨h1, h2⟩, h3⟩ => ⟨i, h3.symm, h1, h2⟩, fun ⟨i, h3, h1, h2⟩ => ⟨i, ⟨h1, h2⟩, h3.symm⟩⟩
/-- the order of lists: shorter ones first, then by their numbers -/
def iv (a b : List Int) : Bool := decide (a.length < b.length) || (decide (a.length = b.length) && decide (fe a b < 0))
theorem ueq {a b : List Int} : iv a b = true ↔ a.length < b.length ∨ (a.length = b.length ∧ ltW a b) := by
 unfold iv
 rw [Bool.or_eq_true, Bool.and_eq_true, decide_eq_true_eq, decide_eq_true_eq, decide_eq_true_eq]
 constructor
 ·rintro (h | ⟨h1, h2⟩)
  ·exact .inl h
  ·exact .inr ⟨h1, (m6 h1).1 h2⟩
 ·rintro (h | ⟨h1, h2⟩)
  ·exact .inl h
  ·exact .inr ⟨h1, (m6 h1).2 h2⟩
theorem uer (a : List Int) : iv a a = false := by
 rw [← Bool.not_eq_true, ueq]
 rintro (h | ⟨_, h⟩)
 ·omega
 ·exact o8 a h
theorem una {a b c : List Int} (h : iv a b = true) (k : iv b c = true) : iv a c = true := by
 rw [ueq] at *
 rcases h with h | ⟨h1, h2⟩
 ·rcases k with k | ⟨k1, _⟩
  ·exact .inl (by omega)
  ·exact .inl (by omega)
 ·rcases k with k | ⟨k1, k2⟩
  ·exact .inl (by omega)
  ·exact .inr ⟨by omega, qt h2 k2⟩
/-- what is found among the first sets -/
def ff (so : Nat → Bool) (n : Nat) : Nat → Option (List Int)
 | 0 => none
 | k + 1 => match ff so n k with
  | none => bif so k then some (e9 n k) else none
  | some b => bif so k && iv (e9 n k) b then some (e9 n k) else some b
def m7 (so : Nat → Bool) (n : Nat) : List Int := (ff so n (2 ^ n)).getD []
structure un3 (so : Nat → Bool) (n k : Nat) (b : List Int) : Prop where
 get : ∃ s, s < k ∧ so s = true ∧ b = e9 n s
 min : ∀ s, s < k → so s = true → iv (e9 n s) b = false
theorem vy (so : Nat → Bool) (n : Nat) : ∀ k, (ff so n k = none ∧ ∀ s, s < k → so s = false) ∨ ∃ b, ff so n k = some b ∧ un3 so n k b
 | 0 => .inl ⟨rfl, fun s h => absurd h (Nat.not_lt_zero _)⟩
 | k + 1 => by
  rcases vy so n k with ⟨h1, h2⟩ | ⟨b, h1, h2⟩
  ·simp only [ff, h1]
   cases hs : so k
   ·exact .inl ⟨rfl, fun s h => by
     by_cases e : s = k
     ·subst e; exact hs
     ·exact h2 s (by omega)⟩
   ·exact .inr ⟨_, rfl, ⟨k, by omega, hs, rfl⟩, fun s h hso => by
     by_cases e : s = k
     ·subst e; exact uer _
     ·rw [h2 s (by omega)] at hso; cases hso⟩
  ·simp only [ff, h1]
   right
   cases hs : so k && iv (e9 n k) b
   ·refine ⟨b, rfl, ?_, fun s h hso => ?_⟩
    ·obtain ⟨s, q1, q2, q3⟩ := h2.get
     exact ⟨s, by omega, q2, q3⟩
    ·by_cases e : s = k
     ·subst e
      rw [hso, Bool.true_and] at hs
      exact hs
     ·exact h2.min s (by omega) hso
   ·rw [Bool.and_eq_true] at hs
    refine ⟨_, rfl, ⟨k, by omega, hs.1, rfl⟩, fun s h hso => ?_⟩
    by_cases e : s = k
    ·subst e; exact uer _
    ·rw [← Bool.not_eq_true]
     intro hb
     have := una hb hs.2
     rw [h2.min s (by omega) hso] at this
     cases this
theorem ueo (so : Nat → Bool) (n : Nat) : (m7 so n).length ≤ n := by
 unfold m7
 rcases vy so n (2 ^ n) with ⟨h, _⟩ | ⟨b, h, k⟩
 ·rw [h]; exact Nat.zero_le _
 ·rw [h]
  obtain ⟨s, _, _, rfl⟩ := k.get
  exact sq n s
theorem uen {so : Nat → Bool} {n k : Nat} (h : ff so n k = none) : ff so n (k + 1) = bif so k then some (e9 n k) else none := by simp only [ff, h]
theorem zb {so : Nat → Bool} {n k : Nat} {b : List Int} (h : ff so n k = some b) : ff so n (k + 1) = bif so k && iv (e9 n k) b then some (e9 n k) else some b := by simp only [ff, h]
/-! ### Lists of numbers that are looked up -/
def bw (n : Nat) (R : Nat → Int) : List Int := (List.range n).map R
theorem gm (n : Nat) (R : Nat → Int) : (bw n R).length = n := by simp [bw]
theorem jg {n i : Nat} (R : Nat → Int) (h : i < n) : (bw n R)[i]? = some (R i) := by simp [bw, h]
theorem rt (n : Nat) (R : Nat → Int) : bw (n + 1) R = bw n R ++ [R n] := by
 unfold bw
 rw [List.range_succ, List.map_append]; rfl
theorem ugv {n : Nat} {R R' : Nat → Int} (h : ∀ i, i < n → R i = R' i) : bw n R = bw n R' := by
 unfold bw
 exact List.map_congr_left fun i hi => h i (List.mem_range.1 hi)
theorem qh {n i : Nat} (R : Nat → Int) (v : Int) (h : i < n) : (bw n R).set i v = bw n fun k => bif decide (k = i) then v else R k := by
 apply List.ext_getElem?
 intro k
 rw [List.getElem?_set, gm]
 by_cases hk : k < n
 ·rw [jg (fun k => bif decide (k = i) then v else R k) hk, jg R hk]
  by_cases e : i = k
  ·subst e; rw [if_pos rfl, if_pos h, decide_eq_true rfl]; rfl
  ·rw [if_neg e, decide_eq_false (Ne.symm e)]; rfl
 ·rw [List.getElem?_eq_none (by rw [gm]; omega)]
  rw [if_neg (by omega), List.getElem?_eq_none (by rw [gm]; omega)]
theorem ugu {n i : Nat} (R : Nat → Int) (h : i < n) : g4 (bw n R) i = R i := by unfold g4; rw [jg R h]; rfl
end Go.AB
namespace Go.AB
open Go Go.RowKit
open Go.AB.Enc (cells)
open Go.PB (ba ai PlaceD bh bj bi bu am ah cy bq)
/-! ### All places are in order -/
theorem uni (t : ai) : (dm t).Pairwise fun a b => fe (c7 a) (c7 b) < 0 := by
 unfold dm
 rw [List.pairwise_map, List.pairwise_iff_getElem]
 intro i j hi hj hij
 have h1 := List.getElem?_eq_getElem hi
 have h2 := List.getElem?_eq_getElem hj
 have h := ujv (ufa h1).1 (ufa h2).1
 rw [xr h1 rfl, xr h2 rfl] at h
 rw [m6 (by rfl), ← h]
 omega
theorem allQ_mem {t : ai} {q : PlaceD} : q ∈ dm t ↔ fo t q = true := allP_mem
theorem vr {t : ai} (f : PlaceD → Bool) : ((dm t).filter f).Pairwise fun a b => fe (c7 a) (c7 b) < 0 := (uni t).filter _
/-- places in order, of a text, are those of all places that are among them -/
theorem uha {t : ai} {l : List PlaceD} (h : l.Pairwise fun a b => fe (c7 a) (c7 b) < 0) (hp : ∀ q ∈ l, fo t q = true) : l = (dm t).filter fun q => decide (q ∈ l) :=
 uh h (vr _) fun q => by
  rw [List.mem_filter, decide_eq_true_eq, allQ_mem]
  exact ⟨fun h => ⟨hp q h, h⟩, fun h => h.2⟩
theorem ulv {t : ai} {x : am} {r : Int} {l : List PlaceD} (h : g5 t x r l = true) : l = (dm t).filter fun q => decide (q ∈ l) := uha (vq h) fun q hq => (l5 h hq).1
theorem ll {t : ai} {x : am} {r : Int} {l : List PlaceD} (h : g5 t x r l = true) : l.length ≤ (dm t).length := by
 rw [ulv h]
 exact List.length_filter_le _ _
theorem ra (t : ai) (x : am) : (cp t x).length ≤ (dm t).length := List.length_filter_le _ _
theorem uej (t : ai) (x : am) : (c8 t x).length ≤ (dm t).length := List.length_filter_le _ _
theorem t8 (t : ai) (x : am) : dn t x ≤ (dm t).length := List.length_filter_le _ _
/-! ### How great numbers are -/
theorem ww {g : am → Nat} {m : Nat} : ∀ {l : List am}, (∀ x ∈ l, g x ≤ m) → ct l g ≤ l.length * m
 | [], _ => by simp [ct]
 | x :: l, h => by
  have h1 := ww (l := l) fun y hy => h y (List.mem_cons_of_mem _ hy)
  have h2 := h x (List.mem_cons_self ..)
  simp only [ct, List.map_cons, List.sum_cons, List.length_cons] at h1 ⊢
  rw [Nat.succ_mul]
  omega
theorem xm {p : ah} (h : ei p) (b : Bool) (i : Int) : ct p.pages (dg b i) ≤ 4800 := by
 have hq := lf h.text
 have h1 := ww (l := p.pages) (g := dg b i) (m := 600) fun x hx => by
  obtain ⟨j, hj⟩ := List.getElem?_of_mem hx
  have hp := pageB_true.1 (h.page j x hj)
  unfold dg
  cases decide (d9 b x = i)
  ·exact Nat.zero_le _
  ·cases b
   ·have := ll hp.found
    show x.found.length ≤ 600
    omega
   ·have := ll hp.well
    show x.well.length ≤ 600
    omega
 have := h.np
 have h2 : p.pages.length * 600 ≤ 8 * 600 := Nat.mul_le_mul_right _ this
 omega
theorem xe {p : ah} (h : ei p) (b : Bool) (i : Int) : ct p.pages (dv p.text b i) ≤ 4800 := by
 have hq := lf h.text
 have h1 := ww (l := p.pages) (g := dv p.text b i) (m := 600) fun x hx => by
  have := ra p.text x
  unfold dv
  cases decide (d9 b x = i)
  ·exact Nat.zero_le _
  ·show (cp p.text x).length ≤ 600
   omega
 have := h.np
 have h2 : p.pages.length * 600 ≤ 8 * 600 := Nat.mul_le_mul_right _ this
 omega
theorem xz {p : ah} (h : ei p) (b : Bool) (i : Nat) : 0 ≤ ky p b i ∧ ky p b i ≤ 90 := by
 unfold ky
 cases hr : (du p b)[i]? with
 | none => exact ⟨Int.le_refl _, by show (0 : Int) ≤ 90; omega⟩
 | some r =>
  have hm := List.mem_of_getElem? hr
  have : gr r = true := h.rd r (by
   rw [List.mem_append]
   cases b
   ·exact .inl hm
   ·exact .inr hm)
  unfold gr at this
  rw [Bool.and_eq_true, inB_true, inB_true] at this
  exact this.2
theorem vx {p : ah} (h : ei p) (b : Bool) (i : Nat) : 0 ≤ jt p b i ∧ jt p b i ≤ 48000 := by
 have h1 := xm h b i
 have h2 := xz h b i
 unfold jt
 have h3 : (0 : Int) < 100 - ky p b i := by omega
 refine ⟨Int.ediv_nonneg (by omega) (by omega), ?_⟩
 have h4 : 100 * ((ct p.pages (dg b i) : Nat) : Int) / (100 - ky p b i) ≤ 100 * ((ct p.pages (dg b i) : Nat) : Int) / 10 := by
  refine Int.le_ediv_of_mul_le (by omega) ?_
  have h5 := Int.ediv_mul_le (100 * ((ct p.pages (dg b i) : Nat) : Int)) (show (100 - ky p b i) ≠ 0 by omega)
  have h6 : 0 ≤ 100 * ((ct p.pages (dg b i) : Nat) : Int) / (100 - ky p b i) := Int.ediv_nonneg (by omega) (by omega)
  have h7 : 100 * ((ct p.pages (dg b i) : Nat) : Int) / (100 - ky p b i) * 10 ≤ 100 * ((ct p.pages (dg b i) : Nat) : Int) / (100 - ky p b i) * (100 - ky p b i) := Int.mul_le_mul_of_nonneg_left (by omega) h6
  omega
 omega
theorem uct {p : ah} (h : ei p) (b : Bool) (i : Nat) : -4800 ≤ k7 p b i ∧ k7 p b i ≤ 48000 := by
 have h1 := vx h b i
 have h2 := xe h b i
 unfold k7
 omega
theorem uky {p : ah} (h : ei p) (i : Nat) : -4800 ≤ cw p i ∧ cw p i ≤ 48000 := by
 unfold cw
 cases decide (i < p.firsts.length)
 ·exact uct h _ _
 ·exact uct h _ _
theorem y9 {p : ah} (h : ei p) (j : Nat) : 0 ≤ c5 p j ∧ c5 p j ≤ 600 := by
 refine ⟨p7 h j, ?_⟩
 have hq := lf h.text
 unfold c5 mo
 cases hx : p.pages[j]? with
 | none => show (0 : Int) ≤ 600; omega
 | some x =>
  have := t8 p.text x
  show tj p.text x ≤ 600
  unfold tj
  omega
/-! ### What is told -/
def em (p : ah) (n : Int) : Int := bif decide (cx p = 0) then (bif inB n 0 ((p.pages.length : Int) - 1) then 0 else 2) else cx p
def fb (p : ah) (e : Int) : Int := bif decide (e = 0) then (bif g8 p then 0 else 8) else e
def j7 (p : ah) (b : Bool) (n : Int) : Int := bif decide (cx p = 0) then (bif inB n 0 (((du p b).length : Int) - 1) then 0 else 2) else cx p
def i6 (p : ah) (m : Int) : Int := bif decide (cx p = 0) then (bif decide (m < 0) then 2 else bif g8 p then 0 else 8) else cx p
def atE {α : Type} (e : Int) (d v : α) : α := bif decide (e = 0) then v else d
def ly (p : ah) (n : Int) : am := (p.pages[n.toNat]?).getD ⟨0, 0, 0, 0, [], []⟩
def pn (p : ah) (n : Int) : Int := atE (em p n) 0 (dn p.text (ly p n) : Int)
def pd (p : ah) (n : Int) : List PlaceD := atE (em p n) [] (cp p.text (ly p n))
def rg (p : ah) (n : Int) : List PlaceD := atE (em p n) [] (c8 p.text (ly p n))
def n8 (p : ah) (b : Bool) (n : Int) : Int := atE (j7 p b n) 0 (jt p b n.toNat)
def mz (p : ah) (n : Int) : Int := bif decide (em p n = 0) then (bif decide ((c8 p.text (ly p n)).length = 0) then 6 else 0) else em p n
def yg (x : am) (k : Nat) : bq := ⟨((x.found.length * x.well.length / k : Nat) : Int), (((x.found.length * x.well.length + k - 1) / k : Nat) : Int)⟩
def n1 (p : ah) (n : Int) : bq := atE (mz p n) ⟨0, 0⟩ (yg (ly p n) (c8 p.text (ly p n)).length)
def nl (p : ah) (n : Int) : bq := atE (fb p (em p n)) ⟨0, 0⟩ ⟨0, (bp p).alone (cw p) (c5 p) n.toNat⟩
def po (p : ah) : Int := (bp p).most (cw p) (c5 p)
def oo (p : ah) : bq := atE (fb p (cx p)) ⟨0, 0⟩ ⟨0, po p⟩
def fq (p : ah) : Nat → Int := (bp p).worst (cw p) (c5 p)
def na (p : ah) : List Int := atE (fb p (cx p)) [] (bw p.pages.length (fq p))
def qg (p : ah) (s : Nat) : Bool := decide ((bp p).f (cw p) (c5 p) (fun i => s.testBit i) = po p)
def g7 (p : ah) : List Int := m7 (qg p) (cj p)
def nd (p : ah) (l : List Int) : List Int := l.filter fun k => decide (k < (p.firsts.length : Int))
def mi (p : ah) (l : List Int) : List Int := (l.filter fun k => !decide (k < (p.firsts.length : Int))).map fun k => k - (p.firsts.length : Int)
def kg (C : Nat → Int) (l : List Int) (j : Nat) : Int := bif decide ((j : Int) ∈ l) then 0 else C j
def ufc (p : ah) (l : List Int) : Int := (bp p).most (cw p) (kg (c5 p) l)
def ti (p : ah) (m : Int) (s : Nat) : Bool := decide (ufc p (e9 p.pages.length s) ≤ m)
def j3 (p : ah) (m : Int) : List Int := atE (i6 p m) [] (m7 (ti p m) p.pages.length)
end
theorem ufk (C : Nat → Int) : kg C [] = C := by funext j; simp [kg]
theorem ufj (C : Nat → Int) (l : List Int) (i : Nat) : kg C (l ++ [(i : Int)]) = er (kg C l) i := by
 funext j
 unfold kg er
 by_cases e : j = i
 ·subst e; simp
 ·rw [decide_eq_false e, cond_false]
  congr 1
  rw [decide_eq_decide, List.mem_append, List.mem_singleton]
  constructor
  ·rintro (h | h)
   ·exact h
   ·omega
  ·exact .inl
theorem ukt (N : Net) (R : Nat → Int) (j : Nat) : N.lessR R j 0 = R := by
 funext i
 unfold Net.lessR
 cases N.by j i <;> simp
theorem ne {p : ah} (h : g8 p = true) : ∀ i, i < (bp p).nr → 0 ≤ cw p i := fun i hi => by
 have := List.all_eq_true.1 h i (List.mem_range.2 hi)
 exact of_decide_eq_true this
end Go.AB
namespace Go.AB
open Go Go.RowKit
open Go.AB.Enc (cells)
open Go.PB (ba ai PlaceD bh bj bi bu am ah cy bq)
/-! ### Readers who miss less -/
end Go.AB
namespace Go.AB
open Go Go.RowKit
open Go.AB.Enc (cells)
open Go.PB (ba ai PlaceD bh bj bi bu am ah cy bq)
end Go.AB
namespace Go.AB
open Go Go.RowKit
open Go.AB.Enc (cells)
open Go.PB (ba ai PlaceD bh bj bi bu am ah cy bq)
end Go.AB
namespace Go.AB
open Go Go.RowKit
open Go.AB.Enc (cells)
open Go.PB (ba ai PlaceD bh bj bi bu am ah cy bq)
end Go.AB
namespace Go.AB
open Go Go.RowKit
open Go.AB.Enc (cells)
open Go.PB (ba ai PlaceD bh bj bi bu am ah cy bq)
/-- as much as can be on a page, if nothing is lost by it -/
theorem Net.pick_alone {N : Net} {R C : Nat → Int} {j : Nat} (h0 : 0 ≤ N.alone R C j) (h : N.most R C ≤ N.alone R C j + N.most (N.lessR R j (N.alone R C j)) (er C j)) : N.pick R C j = N.alone R C j :=
 Net.pick_eq ⟨h0, Int.le_refl _, h, fun m h1 h2 => by omega⟩
def mf : ByteArray := ⟨#[116, 104, 101]⟩
def i2 : ByteArray := ⟨#[115, 101, 97]⟩
def xIs : ByteArray := ⟨#[105, 115]⟩
def mg : ByteArray := ⟨#[111, 108, 100]⟩
def rn : ByteArray := ⟨#[97, 110, 100]⟩
def exTx : ai := [⟨7, [[mf, i2, xIs, mg], [mg, mf, i2]]⟩, ⟨3, [[i2, rn, i2]]⟩]
def exPg : List am := [⟨0, 0, 0, 0, [⟨0, 0, 0⟩], [⟨0, 0, 0⟩, ⟨0, 0, 3⟩]⟩, ⟨1, 2, 0, -1, [⟨0, 1, 1⟩], []⟩]
def exPr : ah := ⟨exTx, [⟨1, 50⟩, ⟨2, 0⟩], [⟨3, 60⟩], exPg⟩
theorem tx : fb exPr (cx exPr) = 0 := by decide +kernel
theorem xp_words : pn exPr 1 = 6 ∧ em exPr 1 = 0 ∧ pn exPr 0 = 4 ∧ em exPr 0 = 0 := ⟨by decide +kernel, by decide +kernel, by decide +kernel, by decide +kernel⟩
theorem xp_found : pd exPr 0 = [⟨0, 0, 0⟩, ⟨0, 0, 3⟩] ∧ rg exPr 0 = [⟨0, 0, 0⟩] := ⟨by decide +kernel, by decide +kernel⟩
theorem xp_guess : n1 exPr 0 = ⟨2, 2⟩ ∧ mz exPr 0 = 0 := ⟨by decide +kernel, by decide +kernel⟩
theorem xp_remain : nl exPr 1 = ⟨0, 1⟩ ∧ fb exPr (em exPr 1) = 0 ∧ nl exPr 0 = ⟨0, 1⟩ ∧ fb exPr (em exPr 0) = 0 := ⟨by decide +kernel, by decide +kernel, by decide +kernel, by decide +kernel⟩
theorem ufm : oo exPr = ⟨0, 1⟩ := by decide +kernel
theorem xp_why : nd exPr (g7 exPr) = [0] ∧ mi exPr (g7 exPr) = [] := ⟨by decide +kernel, by decide +kernel⟩
theorem xp_bound : n8 exPr false 0 = 4 ∧ j7 exPr false 0 = 0 ∧ n8 exPr false 1 = 0 ∧ j7 exPr false 1 = 0 ∧ n8 exPr true 0 = 5 ∧ j7 exPr true 0 = 0 := ⟨by decide +kernel, by decide +kernel, by decide +kernel, by decide +kernel, by decide +kernel, by decide +kernel⟩
theorem xp_chief : j3 exPr 0 = [0, 1] ∧ i6 exPr 0 = 0 ∧ j3 exPr 1 = [] ∧ i6 exPr 1 = 0 := ⟨by decide +kernel, by decide +kernel, by decide +kernel, by decide +kernel⟩
theorem ufl : na exPr = [1, 0] := by
 have h0 : fq exPr 0 = 1 := by
  have := Net.pick_alone (N := bp exPr) (R := cw exPr) (C := c5 exPr) (j := 0) (by decide +kernel) (by decide +kernel)
  exact this.trans (by decide +kernel)
 have h1 : fq exPr 1 = 0 := by
  have e : fq exPr 1 = (bp exPr).pick ((bp exPr).lessR (cw exPr) 0 1) (er (c5 exPr) 0) 1 := by
   show (bp exPr).pick ((bp exPr).lessR (cw exPr) 0 (fq exPr 0)) (er (c5 exPr) 0) 1 = _
   rw [h0]
  have := Net.pick_alone (N := bp exPr) (R := (bp exPr).lessR (cw exPr) 0 1) (C := er (c5 exPr) 0) (j := 1) (by decide +kernel) (by decide +kernel)
  exact e.trans (this.trans (by decide +kernel))
 unfold na
 rw [tx]
 show [fq exPr 0, fq exPr 1] = _
 rw [h0, h1]
end Go.AB
namespace Go.AB
open Go Go.RowKit
open Go.AB.Enc (cells)
open Go.PB (ba ai PlaceD bh bj bi bu am ah cy bq)
/-- who is found by one reader alone, so far -/
def gg (F W : List PlaceD) (q : PlaceD) : Bool := decide (q ∈ F) != decide (q ∈ W)
theorem ujr (F : List PlaceD) (q : PlaceD) : gg F [] q = decide (q ∈ F) := by simp [gg]
theorem wy {l : List PlaceD} (h : l.Pairwise fun a b => fe (c7 a) (c7 b) < 0) : l.Nodup := h.imp fun {a b} hab e => by
 rw [m6 (by rfl)] at hab
 subst e
 exact o8 _ hab
theorem ugs {l : List PlaceD} (h : l.Nodup) {k : Nat} {q : PlaceD} (hq : l[k]? = some q) : q ∉ l.take k := fun hm => by
 obtain ⟨i, hi⟩ := List.getElem?_of_mem hm
 have hik : i < k := by have := (List.getElem?_eq_some_iff.1 hi).1; rw [List.length_take] at this; omega
 rw [List.getElem?_take_of_lt hik] at hi
 obtain ⟨h1, h2⟩ := List.getElem?_eq_some_iff.1 hi
 obtain ⟨h3, h4⟩ := List.getElem?_eq_some_iff.1 hq
 have := (List.pairwise_iff_getElem.1 h) i k h1 h3 hik
 exact this (h2.trans h4.symm)
/-- the place at hand is in the map if the first reader found it -/
theorem uw {F W : List PlaceD} (hW : W.Nodup) {k : Nat} {q : PlaceD} (hq : W[k]? = some q) : gg F (W.take k) q = decide (q ∈ F) := by
 unfold gg
 rw [decide_eq_false (ugs hW hq)]
 cases decide (q ∈ F) <;> rfl
theorem ubz {F W : List PlaceD} (hW : W.Nodup) {k : Nat} {q : PlaceD} (hq : W[k]? = some q) (x : PlaceD) : gg F (W.take (k + 1)) x = bif decide (x = q) then !decide (q ∈ F) else gg F (W.take k) x := by
 have hm : decide (x ∈ W.take (k + 1)) = (decide (x ∈ W.take k) || decide (x = q)) := by
  rw [List.take_add_one, hq, Option.toList_some, Bool.eq_iff_iff]
  simp
 by_cases e : x = q
 ·subst e
  unfold gg
  rw [hm, decide_eq_true (rfl : x = x), Bool.or_true, cond_true]
  cases decide (x ∈ F) <;> rfl
 ·unfold gg
  rw [hm, decide_eq_false e, Bool.or_false, cond_false]
/-- what both found so far -/
def mb (F W : List PlaceD) (k : Nat) : List PlaceD := (W.take k).filter fun q => decide (q ∈ F)
theorem ueh {F W : List PlaceD} {k : Nat} {q : PlaceD} (hq : W[k]? = some q) : mb F W (k + 1) = mb F W k ++ bif decide (q ∈ F) then [q] else [] := by
 unfold mb
 rw [List.take_add_one, hq, Option.toList_some, List.filter_append]
 cases h : decide (q ∈ F) <;> simp [h]
theorem uei (F W : List PlaceD) (k : Nat) : (mb F W k).length ≤ W.length := by
 unfold mb
 have := List.length_filter_le (fun q => decide (q ∈ F)) (W.take k)
 rw [List.length_take] at this
 omega
theorem um1 {p : ah} {last : Int} {x : am} (h : m9 p last x) : mb x.found x.well x.well.length = c8 p.text x := by
 have hs : (mb x.found x.well x.well.length).Pairwise fun a b => fe (c7 a) (c7 b) < 0 := by
  unfold mb
  rw [List.take_length]
  exact (vq h.well).filter _
 refine uh hs (vr _) fun q => ?_
 unfold mb
 rw [List.take_length, List.mem_filter, decide_eq_true_eq]
 show _ ↔ q ∈ (dm p.text).filter _
 rw [List.mem_filter, Bool.and_eq_true, decide_eq_true_eq, decide_eq_true_eq, allQ_mem]
 exact ⟨fun ⟨h1, h2⟩ => ⟨(l5 h.well h1).1, h2, h1⟩, fun ⟨_, h2, h3⟩ => ⟨h3, h2⟩⟩
/-- both's places, and those of one alone in any order, put in order: all that are found -/
theorem ue3 {p : ah} {last : Int} {x : am} (h : m9 p last x) {ks s : List PlaceD} (hn : ks.Nodup) (hk : ∀ q, q ∈ ks ↔ gg x.found x.well q = true) (hp : s.Perm (c8 p.text x ++ ks)) (hs : s.Pairwise fun a b => ¬ fe (c7 b) (c7 a) < 0) : s = cp p.text x := by
 have hmb : ∀ q, q ∈ c8 p.text x ↔ q ∈ x.found ∧ q ∈ x.well := fun q => by
  show q ∈ (dm p.text).filter _ ↔ _
  rw [List.mem_filter, Bool.and_eq_true, decide_eq_true_eq, decide_eq_true_eq, allQ_mem]
  exact ⟨fun h => h.2, fun h2 => ⟨(l5 h.well h2.2).1, h2⟩⟩
 have hko : ∀ q, gg x.found x.well q = true ↔ (q ∈ x.found ∧ q ∉ x.well) ∨ (q ∉ x.found ∧ q ∈ x.well) := fun q => by
  unfold gg
  by_cases h1 : q ∈ x.found <;> by_cases h2 : q ∈ x.well <;> simp [h1, h2]
 have hnd : (c8 p.text x ++ ks).Nodup := by
  rw [List.nodup_append]
  refine ⟨wy (vr _), hn, fun a ha b hb e => ?_⟩
  subst e
  have h1 := (hmb a).1 ha
  rcases (hko a).1 ((hk a).1 hb) with h2 | h2
  ·exact h2.2 h1.2
  ·exact h2.1 h1.1
 have hsn : s.Nodup := hp.nodup_iff.2 hnd
 have hs2 : s.Pairwise fun a b => fe (c7 a) (c7 b) < 0 := by
  have := List.Pairwise.and hs hsn
  refine this.imp fun {a b} hab => ?_
  rw [m6 (by rfl)] at hab ⊢
  refine Classical.byContradiction fun hno => hab.2 ?_
  exact uld (x7 (by rfl) hno hab.1)
 refine uh hs2 (vr _) fun q => ?_
 rw [hp.mem_iff, List.mem_append, hmb, hk, hko]
 show _ ↔ q ∈ (dm p.text).filter _
 rw [List.mem_filter, Bool.or_eq_true, decide_eq_true_eq, decide_eq_true_eq, allQ_mem]
 constructor
 ·rintro (⟨h1, h2⟩ | ⟨h1, _⟩ | ⟨_, h2⟩)
  ·exact ⟨(l5 h.found h1).1, .inl h1⟩
  ·exact ⟨(l5 h.found h1).1, .inl h1⟩
  ·exact ⟨(l5 h.well h2).1, .inr h2⟩
 ·rintro ⟨_, h1 | h1⟩
  ·by_cases h2 : q ∈ x.well
   ·exact .inl ⟨h1, h2⟩
   ·exact .inr (.inl ⟨h1, h2⟩)
  ·by_cases h2 : q ∈ x.found
   ·exact .inl ⟨h2, h1⟩
   ·exact .inr (.inr ⟨h2, h1⟩)
/-! ### The words of a page, line by line -/
def fy (t : ai) (x : am) (l : List PlaceD) : Nat := (l.filter (fl t x)).length
theorem zy (t : ai) (x : am) {k n : Nat} {c : ba} {l : List ByteArray} (hn : c.lines[n]? = some l) : fy t x (gu t k c.lines (n + 1)) = fy t x (gu t k c.lines n) + bif inB ((fu t k : Int) + (n : Int)) x.fr x.to then l.length else 0 := by
 have e : gu t k c.lines (n + 1) = gu t k c.lines n ++ (jy k n l).map (·.1) := by
  unfold gu
  rw [y7 k hn, List.map_append, List.append_assoc]
 unfold fy
 rw [e, List.filter_append, List.length_append]
 congr 1
 have hall : ∀ q ∈ (jy k n l).map (·.1), fl t x q = inB ((fu t k : Int) + (n : Int)) x.fr x.to := fun q hq => by
  obtain ⟨y, hy, rfl⟩ := List.mem_map.1 hq
  obtain ⟨w, hw, rfl⟩ := List.mem_mapIdx.1 hy
  show inB (pz t ⟨(k : Int), (n : Int), (w : Int)⟩) x.fr x.to = _
  unfold pz
  dsimp only
  rw [Int.toNat_natCast, Int.add_comm]
 have hlen : ((jy k n l).map (·.1)).length = l.length := by rw [List.length_map]; unfold jy; rw [List.length_mapIdx]
 cases hb : inB ((fu t k : Int) + (n : Int)) x.fr x.to
 ·rw [List.filter_eq_nil_iff.2 fun q hq => by rw [hall q hq, hb]; simp]; rfl
 ·rw [List.filter_eq_self.2 fun q hq => by rw [hall q hq, hb], hlen]; rfl
theorem ufy (t : ai) (x : am) : fy t x (dm t) = dn t x := rfl
end Go.AB
namespace Go.AB
open Go Go.RowKit
open Go.AB.Enc (cells)
open Go.PB (ba ai PlaceD bh bj bi bu am ah cy bq)
section
variable {N : Net} {R C : Nat → Int}
theorem Net.Feas.congr {y z : Nat → Int} (h : N.Feas R C y) (e : ∀ j, j < N.np → y j = z j) : N.Feas R C z := by
 refine ⟨fun j hj => by rw [← e j hj]; exact h.page j hj, fun i hi => ?_⟩
 have : sm N.np (fun j => bif N.by j i then z j else 0) = sm N.np (fun j => bif N.by j i then y j else 0) := jh fun j hj => by rw [e j hj]
 rw [this]
 exact h.rd i hi
theorem Net.feas_zero (hR : ∀ i, i < N.nr → 0 ≤ R i) (hC : ∀ j, j < N.np → 0 ≤ C j) : N.Feas R C fun _ => 0 := by
 refine ⟨fun j hj => ⟨Int.le_refl _, hC j hj⟩, fun i hi => ?_⟩
 have : sm N.np (fun j => bif N.by j i then (0 : Int) else 0) = 0 := (jh (h := fun _ => 0) fun j _ => by cases N.by j i <;> rfl).trans (mj _)
 rw [this]
 exact hR i hi
/-- so much on one page, and nothing on others -/
def kp (i : Nat) (v : Int) (j : Nat) : Int := bif decide (j = i) then v else 0
theorem Net.feas_one {i : Nat} (hi : i < N.np) (hR : ∀ i, i < N.nr → 0 ≤ R i) (hC : ∀ j, j < N.np → 0 ≤ C j) {v : Int} (h0 : 0 ≤ v) : N.Feas R C (kp i v) ↔ ((∀ r, N.by i r = true → r < N.nr) → v ≤ N.alone R C i) ∧ (∀ r, N.by i r = true → r < N.nr) ∨ N.Feas R C (kp i v) := ⟨.inr, fun h => h.elim (fun h => by
 have hv := Net.le_alone.1 (h.1 h.2)
 refine ⟨fun j hj => ?_, fun r hr => ?_⟩
 ·unfold kp
  by_cases e : j = i
  ·subst e; simp [h0, hv.1]
  ·rw [decide_eq_false e]; exact ⟨Int.le_refl _, hC j hj⟩
 ·have : sm N.np (fun j => bif N.by j r then kp i v j else 0) = bif N.by i r then v else 0 := by
   rw [← oq hi (bif N.by i r then v else 0)]
   refine jh fun j _ => ?_
   unfold kp
   by_cases e : j = i
   ·subst e; simp
   ·rw [decide_eq_false e]; cases N.by j r <;> rfl
  rw [this]
  cases hb : N.by i r
  ·exact hR r hr
  ·exact hv.2 r hb) id⟩
theorem Net.feas_one_of (hN : N.Ok) {i : Nat} (hi : i < N.np) (hR : ∀ i, i < N.nr → 0 ≤ R i) (hC : ∀ j, j < N.np → 0 ≤ C j) {v : Int} (h0 : 0 ≤ v) (hv : v ≤ N.alone R C i) : N.Feas R C (kp i v) := (Net.feas_one hi hR hC h0).2 (.inl ⟨fun _ => hv, fun _ h => hN.by_lt h⟩)
theorem Net.feas_one_le (hN : N.Ok) {i : Nat} (hi : i < N.np) {v : Int} (h : N.Feas R C (kp i v)) : v ≤ N.alone R C i := by
 have := Net.feas_alone hN h hi
 unfold kp at this
 simpa using this
theorem Net.alone_nn (hN : N.Ok) {i : Nat} (hi : i < N.np) (hR : ∀ i, i < N.nr → 0 ≤ R i) (hC : ∀ j, j < N.np → 0 ≤ C j) : 0 ≤ N.alone R C i := Net.le_alone.2 ⟨hC i hi, fun r hr => hR r (hN.by_lt hr)⟩
theorem Net.alone_most (hN : N.Ok) {i : Nat} (hi : i < N.np) (hR : ∀ i, i < N.nr → 0 ≤ R i) (hC : ∀ j, j < N.np → 0 ≤ C j) : N.alone R C i ≤ N.most R C := by
 have h := Net.feas_most hN (Net.feas_one_of hN hi hR hC (Net.alone_nn hN hi hR hC) (Int.le_refl _))
 rwa [show sm N.np (kp i (N.alone R C i)) = N.alone R C i from oq hi _] at h
end
theorem ub {p : ah} (h : ei p) (y : Nat → Int) : i7 p (bw p.pages.length fun j => ef p j + y j) = true ↔ (bp p).Feas (cw p) (c5 p) y := by
 have e : ∀ j, j < p.pages.length → g4 (bw p.pages.length fun j => ef p j + y j) j - ef p j = y j := fun j hj => by
  rw [ugu _ hj]; omega
 rw [ugh h]
 exact ⟨fun k => k.2.congr e, fun k => ⟨gm _ _, k.congr fun j hj => (e j hj).symm⟩⟩
/-- without a truth nothing that is told is one -/
theorem z7 {p : ah} (h : ei p) : i7 p (bw p.pages.length (ef p)) = g8 p := by
 have e : (ef p) = fun j => ef p j + (fun _ => (0 : Int)) j := by funext j; simp
 rw [Bool.eq_iff_iff, e, ub h]
 constructor
 ·intro k
  refine List.all_eq_true.2 fun i hi => decide_eq_true ?_
  have := k.rd i (List.mem_range.1 hi)
  rwa [(jh (h := fun _ => 0) fun j _ => by cases (bp p).by j i <;> rfl).trans (mj _)] at this
 ·exact fun k => Net.feas_zero (ne k) fun j _ => p7 h j
end Go.AB
namespace Go.PB
structure dd where
 readers : List Int
 pages : List Int
 read : List (List Int)
/-- the reference's: readers and pages alone -/
structure dj where
 readers : List Int
 pages : List Int
end Go.PB
namespace Go.AB
open Go Go.RowKit
open Go.AB.Enc (cells)
open Go.PB (ba ai PlaceD bh bj bi bu am ah cy bq dd dj)
instance : Enc dd := ⟨fun x => [lst x.readers, lst x.pages, lst x.read], 3, fun _ => rfl, fun m x c h => by
 simp only [List.mem_cons, List.not_mem_nil, or_false] at h
 rcases h with rfl | rfl | rfl
 ·exact ca m _
 ·exact ca m _
 ·exact ca m _, fun x c h => by
 simp only [List.mem_cons, List.not_mem_nil, or_false] at h; rcases h with rfl | rfl | rfl <;> rfl⟩
def ge (p : ah) (R C : Nat → Int) : dd := ⟨bw (cj p) R, bw p.pages.length C, p.pages.map (dt p)⟩
/-- numbers that no sum of takes too far -/
structure Bd (p : ah) (R C : Nat → Int) : Prop where
 r : ∀ i, -1000000 ≤ R i ∧ R i ≤ 1000000
 c : ∀ j, 0 ≤ C j ∧ C j ≤ 1000000
 nr : cj p ≤ 6
 np : p.pages.length ≤ 8
theorem tm {p : ah} (h : ei p) : Bd p (cw p) (c5 p) := ⟨fun i => by have := uky h i; omega, fun j => by have := y9 h j; omega, by have := h.nf; have := h.ns; unfold cj; omega, h.np⟩
/-- what some first readers of a set have -/
def fR (R : Nat → Int) (S : Nat → Bool) (i : Nat) : Int := sm i fun k => bif S k then R k else 0
def fC (p : ah) (C : Nat → Int) (S : Nat → Bool) (j : Nat) : Int := sm j fun k => bif (bp p).hit S k then 0 else C k
theorem udp (p : ah) (R C : Nat → Int) (S : Nat → Bool) : (bp p).f R C S = fR R S (cj p) + fC p C S p.pages.length := rfl
theorem wz {g : Nat → Int} {m : Int} (h : ∀ i, -m ≤ g i ∧ g i ≤ m) : ∀ n : Nat, -(n * m) ≤ sm n g ∧ sm n g ≤ n * m
 | 0 => by simp [sm]
 | n + 1 => by
  have h1 := wz h n
  have h2 := h n
  have e : ((n + 1 : Nat) : Int) * m = (n : Int) * m + m := by rw [Int.natCast_add, Int.add_mul]; simp
  simp only [sm]
  omega
theorem yu {p : ah} {R C : Nat → Int} (h : Bd p R C) (S : Nat → Bool) (i : Nat) (hi : i ≤ cj p) : -6000000 ≤ fR R S i ∧ fR R S i ≤ 6000000 := by
 have := wz (g := fun k => bif S k then R k else 0) (m := 1000000) (fun k => by cases S k; simp; exact h.r k) i
 have := h.nr
 unfold fR
 omega
theorem udu {p : ah} {R C : Nat → Int} (h : Bd p R C) (S : Nat → Bool) (j : Nat) (hj : j ≤ p.pages.length) : 0 ≤ fC p C S j ∧ fC p C S j ≤ 8000000 := by
 have h1 := wz (g := fun k => bif (bp p).hit S k then 0 else C k) (m := 1000000) (fun k => by have := h.c k; cases (bp p).hit S k; simp; omega; simp) j
 have h2 := ui (n := j) (g := fun k => bif (bp p).hit S k then 0 else C k) fun k _ => by have := h.c k; cases (bp p).hit S k; exact this.1; exact Int.le_refl _
 have := h.np
 unfold fC
 omega
theorem f_bd {p : ah} {R C : Nat → Int} (h : Bd p R C) (S : Nat → Bool) : -6000000 ≤ (bp p).f R C S ∧ (bp p).f R C S ≤ 14000000 := by
 have h1 := yu h S _ (Nat.le_refl _)
 have h2 := udu h S _ (Nat.le_refl _)
 rw [udp]
 omega
theorem uch {g : Nat → Int} {a b : Int} (h : ∀ s, a ≤ g s ∧ g s ≤ b) (k : Nat) : a ≤ lj g k ∧ lj g k ≤ b := by
 obtain ⟨s, _, e⟩ := x4 (g := g) k
 rw [e]
 exact h s
theorem ucd {p : ah} {R C : Nat → Int} (h : Bd p R C) : -6000000 ≤ (bp p).most R C ∧ (bp p).most R C ≤ 14000000 := uch (fun s => f_bd h _) _
end Go.AB
namespace Go.AB
open Go Go.RowKit
open Go.AB.Enc (cells)
section
variable {P : Program} {o : Oper} {st : St} {K : St → Prop}
end
end Go.AB
namespace Go.AB
open Go Go.RowKit Go.Shelf Go.Proofs
open Go.AB.Enc (cells)
section
variable {P : Program} {o : Oper} {st : St} {K : St → Prop}
theorem uji {E : Env} {w : World} {v : Value} {n ver len : Nat} (hp : R E w (.own n ver len) v) : ∃ a cap, v = .slice a len cap ∧ n < E.nx ∧ len ≤ cap ∧ cap ≤ maxLen ∧ ∀ ver' wv val, E.T n = some (ver', wv, val) → ver ≤ ver' ∧ (ver = ver' → ∃ m, len ≤ m ∧ val = .slice a m cap) := by
 cases hp with
 | own h1 h2 h3 h4 => exact ⟨_, _, rfl, h1, h2, h3, h4⟩
/-- append of nothing onto an own slice. -/
theorem uka {t e : TypeId} {sz bytes n ver m : Nat} [AppT P t e sz bytes] {s x : Operand} {tk : Tok} (ho : o.op = .call { callee := .builtin .append, args := #[s, x], argTypes := #[t, t] }) (hs : evC st s = .own n ver m) (hx : evC st x = .list [] tk) : NStep P o st (.own n ver m) := fun E w a hsim => by
 obtain ⟨ht, i, z, hie, hz, h1, h2, h3⟩ := AppT.spec (P := P) (t := t) (e := e) (sz := sz) (bytes := bytes)
 have hown := hs ▸ hsim.ev s
 obtain ⟨ad, cap, e1, q1, q2, q3, q4⟩ := uji hown
 obtain ⟨ao, c, _, _, e3, _⟩ := (hx ▸ hsim.ev x).list_inv
 refine ⟨a.eval s, hown, fun w' => ?_⟩
 have hrun := rz (P := P) w' t o.type e i ht hie ad ao m cap c q2
 simp only [execOp, ho, resolve, invoke, builtin, Sem.run_bind, Sem.run_pure, Result.andThen_ok, List.map_toArray, List.map_cons, List.map_nil, e1, e3]
 rw [List.length_nil] at *
 rw [hrun]; rfl
/-- append of data onto an own slice. -/
theorem re {α : Type} [Enc α] {t e : TypeId} {bytes n ver wv : Nat} [AppT P t e (Enc.n α) bytes] {s x : Operand} {tk : Tok} {rows : List (List C)} {xs : List α} {m : Nat} {cs : List C} (ys : List α) (ho : o.op = .call { callee := .builtin .append, args := #[s, x], argTypes := #[t, t] }) (hs : evC st s = .own n ver m) (hG : st.G n = some (.arr ver wv e (Enc.n α) m cs)) (hc : cs = di xs) (hm : m = xs.length) (hx : evC st x = .list rows tk) (hy : rows = ys.map cells) (hb : (xs.length + ys.length) * bytes ≤ 140737488355328) (hmax : xs.length + ys.length ≤ 9223372036854775807)
  (h : ∀ v : Nat, K (St.put { st with G := aq st.G n (.arr v wv e (Enc.n α) (xs ++ ys).length (di (xs ++ ys))) } o.dst (.own n v (xs ++ ys).length))) : EStep P o st K := by
 subst hc; subst hm; subst hy
 by_cases h0 : ys = []
 ·subst h0
  have h1 := h ver
  simp only [List.append_nil] at h1
  have h2 : aq st.G n (.arr ver wv e (Enc.n α) xs.length (di xs)) = st.G := by
   funext k
   simp only [aq]
   split
   ·rename_i e; rw [e, hG]
   ·rfl
  rw [h2] at h1
  exact SStep.e' (NStep.s (D := fun _ => True) (uka ho hs hx)) h1
 ·refine umg ho hs hG hx (lk ys) (by simpa using hb) (by simpa using hmax) (by simpa using h0) ?_
  have h1 := h (ver + 1)
  rw [udk] at h1
  simpa [di] using h1
end
end Go.AB
namespace Go.AB
open Go Go.RowKit
open Go.AB.Enc (cells)
open Go.PB (ba ai PlaceD bh bj bi bu am ah cy bq dd dj)
/-- the first of some numbers that is not nought -/
def orN (xs : List Int) : Int := (xs.find? fun x => !decide (x = 0)).getD 0
theorem ujk {xs : List Int} {k : Nat} {x : Int} (hx : xs[k]? = some x) (hne : x ≠ 0) (h : ∀ y ∈ xs.take k, y = 0) : orN xs = x := by
 unfold orN
 rw [List.find?_eq_some_iff_append.2 ⟨by simpa using hne, xs.take k, xs.drop (k + 1), ?_, fun y hy => by simp [h y hy]⟩]
 ·rfl
 obtain ⟨h1, h2⟩ := List.getElem?_eq_some_iff.1 hx
 rw [← h2, ← List.drop_eq_getElem_cons h1, List.take_append_drop]
theorem ujm {xs : List Int} (h : ∀ y ∈ xs, y = 0) : orN xs = 0 := by
 unfold orN
 rw [List.find?_eq_none.2 fun y hy => by simp [h y hy]]
 rfl
theorem ukf {α : Type} {l : List α} {k : Nat} {x : α} {p : α → Prop} (hx : l[k]? = some x) (hp : p x) (h : ∀ y ∈ l.take k, p y) : ∀ y ∈ l.take (k + 1), p y := fun y hy => by
 rw [List.take_add_one, hx] at hy
 simp only [Option.toList_some, List.mem_append, List.mem_singleton] at hy
 rcases hy with hy | rfl
 ·exact h y hy
 exact hp
def li (a b : PlaceD) : Int := fe (c7 a) (c7 b)
theorem ujl (a b : PlaceD) : orN [ii a.ch b.ch, ii a.ln b.ln, ii a.wd b.wd] = li a b := by
 unfold orN li c7
 simp only [fe]
 by_cases h1 : ii a.ch b.ch = 0
 ·by_cases h2 : ii a.ln b.ln = 0
  ·by_cases h3 : ii a.wd b.wd = 0 <;> simp [h1, h2, h3]
  simp [h1, h2]
 simp [h1]
/-- the order of lists, shorter ones first -/
def w5 (a b : List Int) : Int := orN [(a.length : Int) - (b.length : Int), fe a b]
theorem uk (a b : List Int) : decide (w5 a b < 0) = iv a b := by
 unfold w5 orN iv
 by_cases h1 : (a.length : Int) - (b.length : Int) = 0
 ·have h2 : a.length = b.length := by omega
  have h3 : ¬ a.length < b.length := by omega
  by_cases h4 : fe a b = 0
  ·simp [h2, h4]
  simp [h2, h4]
 have h2 : ¬ a.length = b.length := by omega
 by_cases h3 : a.length < b.length
 ·have : (a.length : Int) - (b.length : Int) < 0 := by omega
  simp [h1, h2, h3, this]
 have : ¬ (a.length : Int) - (b.length : Int) < 0 := by omega
 simp [h1, h2, h3, this]
def lx (t : ai) (k : Nat) : List Int := (List.range k).map fun i => (fu t i : Int)
theorem uah (t : ai) (k : Nat) : (lx t k).length = k := by simp [lx]
theorem uai {t : ai} {k i : Nat} (h : i < k) : (lx t k)[i]? = some (fu t i : Int) := by simp [lx, h]
theorem ug8 (t : ai) (k : Nat) : lx t (k + 1) = lx t k ++ [(fu t k : Int)] := by
 unfold lx
 rw [List.range_succ, List.map_append]; rfl
theorem uf {t : ai} (ht : dp t = true) (k : Nat) (hk : k ≤ t.length) : fu t k ≤ 60 := by
 obtain ⟨h1, h2, h3⟩ := kj ht
 have key : ∀ k, k ≤ t.length → fu t k ≤ 10 * k := by
  intro k
  induction k with
  | zero => intro _; rw [uaj]; exact Nat.zero_le _
  | succ k ih =>
   intro hk
   have hc : t[k]? = some t[k] := List.getElem?_eq_getElem (by omega)
   rw [ru hc]
   have := ih (by omega)
   have := (h3 _ (f4 hc)).2.1
   omega
 have := key k hk
 omega
end Go.AB
namespace Go.Proofs.YtbbdginipiljdaaGreatDoor
set_option maxRecDepth 10000
open Go.RowKit Go.AB
open Go.AB.Enc (cells)
open Go.PB (ba ai PlaceD bh bj bi bu am ah cy bq dd dj)
theorem ubp (xs : List Int) : Pure Tryz.prog 92 [lst xs] (.v (.int .i64 (orN xs))) := by
 refine cz Tryz.func92 rfl (fun m => .v) fun G nx => ?_
 simp only [Tryz.ntmps92, List.length_cons, List.length_nil, Nat.reduceAdd, Nat.reduceSub]
 refine bx fun hlt => ?_
 dsimp only at hlt
 refine la 0 (fun hf => ?_)
 replace hf := (fit_lst.1 hf).1
 refine yS fun _ K1 => ?_
 refine yR ?_
 refine yA rfl rfl ?_
 refine yN ?_
 dsimp only [St.put]
 refine K1 _ ?_
 refine yS fun _ K2 => ?_
 refine yR ?_
 refine yA rfl rfl ?_
 refine yN ?_
 dsimp only [St.put]
 refine K2 _ ?_
 refine yS fun _ K3 => ?_
 refine yS fun _ K4 => ?_
 refine yR ?_
 refine yM rfl rfl ?_
 refine aa rfl (bk rfl rfl (List.length_map _)) ?_
 refine yM rfl rfl ?_
 refine yN ?_
 dsimp only [St.put]
 refine K4 _ ?_
 refine bg ?_
 refine cr 9 ?_
 refine zQ ?_
 refine c6 (G) zX ?_
 dsimp only
 refine c9 (X := Nat) (fun k => k ≤ xs.length ∧ ∀ y ∈ xs.take k, y = 0) (fun k => xs.length - k) (fun k => [(4, .any), (5, .any), (8, .v (.int .i64 (k : Int)))]) (fun k G' => G') 0 rfl ?_ ?_ (fun _ _ h => h) ?_ ?_ ?_
 ·exact ⟨by simp, by simp⟩
 ·exact zF
 ·rintro k hI
  exact zL
 ·exact fun _ _ _ _ h => .inl h
 rintro k hI
 dsimp only at hI ⊢
 refine yS fun _ K5 => ?_
 refine yR ?_
 refine aa rfl (cv rfl rfl rfl) ?_
 refine yN ?_
 dsimp only [St.put]
 refine K5 _ ?_
 refine yS fun _ K6 => ?_
 refine aw rfl (fun hc => ?_) (fun hc => ?_)
 ·replace hc := of_decide_eq_true hc
  obtain ⟨x, hx⟩ : ∃ x, xs[k]? = some x := da (by omega)
  refine az ?_
  refine K6 _ ?_
  refine yS fun _ K7 => ?_
  refine bg ?_
  refine yS fun _ K8 => ?_
  refine yR ?_
  refine aa rfl (bt rfl rfl rfl rfl (br (by assumption)) (Enc.len _)) ?_
  refine yL rfl rfl rfl ?_
  refine yA rfl rfl ?_
  refine yN ?_
  dsimp only [St.put]
  refine K8 _ ?_
  refine yS fun _ K9 => ?_
  refine yR ?_
  refine yM rfl rfl ?_
  refine yM rfl rfl ?_
  refine aa rfl (eu rfl rfl rfl) ?_
  refine yN ?_
  dsimp only [St.put]
  refine K9 _ ?_
  refine aw rfl (fun hc => ?_) (fun hc => ?_)
  ·replace hc := jp hc
   refine yS fun _ K10 => ?_
   refine yR ?_
   refine yM rfl rfl ?_
   refine yA rfl rfl ?_
   refine yN ?_
   dsimp only [St.put]
   refine K10 _ ?_
   refine ax ?_
   refine bf rfl (by constructor) zN zS ?_
   exact vi (ujk hx hc hI.2).symm
  replace hc := ia hc
  refine az ?_
  refine K7 _ ?_
  refine yR ?_
  refine aa rfl (bv rfl rfl rfl (by omega)) ?_
  refine yM rfl rfl ?_
  refine yN ?_
  dsimp only [St.put]
  exact ⟨k + 1, by omega, ⟨by omega, ukf hx hc hI.2⟩, ⟨⟨rfl, rfl⟩, zF, zB, zN, zX⟩⟩
 try replace hc := of_decide_eq_false hc
 refine c4 ?_
 refine K3 _ ?_
 refine yS fun _ K11 => ?_
 refine yR ?_
 refine yM rfl rfl ?_
 refine yA rfl rfl ?_
 refine yN ?_
 dsimp only [St.put]
 refine K11 _ ?_
 refine ax ?_
 refine bf rfl (by constructor) zN zS ?_
 exact vi (by
  rw [ujm]
  have := hI.2
  rwa [gl (by omega)] at this)
theorem uja (n lo hi : Int) : Pure Tryz.prog 96 [.v (.int .i64 n), .elem [.v (.int .i64 lo)], .elem [.v (.int .i64 hi)]] (.v (.bool (lz n lo hi))) := by
 refine cz Tryz.func96 rfl (fun m => .v) fun G nx => ?_
 simp only [Tryz.ntmps96, List.length_cons, List.length_nil, Nat.reduceAdd, Nat.reduceSub]
 refine bx fun hlt => ?_
 dsimp only at hlt
 refine yS fun _ K1 => ?_
 refine yR ?_
 refine yA rfl rfl ?_
 refine yN ?_
 dsimp only [St.put]
 refine K1 _ ?_
 refine yS fun _ K2 => ?_
 refine yR ?_
 refine yM rfl rfl ?_
 refine yL rfl rfl rfl ?_
 refine aa rfl (cv rfl rfl rfl) ?_
 refine eo (fun hs => ?_) (fun hs => ?_)
 ·try replace hs := of_decide_eq_true hs
  refine yM rfl rfl ?_
  refine yK rfl ?_
  refine yK rfl ?_
  refine yK rfl ?_
  refine aa rfl (b9 rfl rfl (by constructor)) ?_
  refine yA rfl rfl ?_
  refine yN ?_
  dsimp only [St.put]
  refine K2 _ ?_
  refine ax ?_
  refine bf rfl (by constructor) zN zS ?_
  exact vb (by simp [lz, hs]; try omega)
 try replace hs := of_decide_eq_false hs
 refine yM rfl rfl ?_
 refine yM rfl rfl ?_
 refine yL rfl rfl rfl ?_
 refine aa rfl (ib rfl rfl rfl) ?_
 refine aa rfl (co rfl rfl (by constructor)) ?_
 refine yA rfl rfl ?_
 refine yN ?_
 dsimp only [St.put]
 refine K2 _ ?_
 refine ax ?_
 refine bf rfl (by constructor) zN zS ?_
 exact vb (by simp [lz, hs]; try omega)
theorem mp (lo hi : Int) (xs : List Int) : Pure Tryz.prog 76 [.v (.int .i64 lo), .v (.int .i64 hi), lst xs] (.v (.bool (vk lo hi xs))) := by
 refine cz Tryz.func76 rfl (fun m => .v) fun G nx => ?_
 simp only [Tryz.ntmps76, List.length_cons, List.length_nil, Nat.reduceAdd, Nat.reduceSub]
 refine bx fun hlt => ?_
 dsimp only at hlt
 refine yS fun _ K1 => ?_
 refine yR ?_
 try dsimp only [St.put]
 refine yB rfl rfl rfl ?_
 try dsimp only [St.put]
 refine yB rfl rfl rfl ?_
 refine yA rfl rfl ?_
 refine yN ?_
 dsimp only [St.put]
 refine K1 _ ?_
 refine yS fun _ K2 => ?_
 refine yR ?_
 refine yM rfl rfl ?_
 refine aa rfl (pu rfl rfl) ?_
 try dsimp only [St.put]
 refine af rfl (bd rfl rfl rfl (wb xs (fun n => lz n lo hi) _ _ fun x _ => uja x lo hi) ?_)
 refine aa rfl (dq rfl rfl) ?_
 refine yA rfl rfl ?_
 refine yN ?_
 dsimp only [St.put]
 refine K2 _ ?_
 refine ax ?_
 refine bf rfl (by constructor) zN zS ?_
 rfl
theorem xk (a b : PlaceD) : Pure Tryz.prog 84 [val a, val b] (.v (.int .i64 (li a b))) := by
 refine cz Tryz.func84 rfl (fun m => .v) fun G nx => ?_
 simp only [Tryz.ntmps84, List.length_cons, List.length_nil, Nat.reduceAdd, Nat.reduceSub]
 refine bx fun hlt => ?_
 dsimp only at hlt
 refine yS fun _ K1 => ?_
 refine yR ?_
 try dsimp only [St.put]
 refine yB rfl rfl rfl ?_
 try dsimp only [St.put]
 refine yB rfl rfl rfl ?_
 refine yA rfl rfl ?_
 refine yN ?_
 dsimp only [St.put]
 refine K1 _ ?_
 refine yS fun _ K2 => ?_
 refine gj [(0, none), (1, none), (2, none), (3, none), (5, none), (6, none), (7, none), (8, none), (10, none), (11, none), (12, none), (13, none), (4, none), (9, none), (14, none), (15, none), (16, none), (17, none)] (fun i => [14, 15, 16].contains i) (fun i => [4, 9, 14, 15, 16].contains i) (fun i => [0, 2, 5, 7, 10, 12, 17].contains i) [] (by kernel_rfl) (by kernel_rfl) ?_
 refine ae rfl rfl rfl rfl (cn rfl rfl rfl) ?_
 try dsimp only [St.put]
 refine bc rfl rfl rfl rfl (cc rfl rfl) ?_
 refine ae rfl rfl rfl rfl (cn rfl rfl rfl) ?_
 try dsimp only [St.put]
 refine bc rfl rfl rfl rfl (cc rfl rfl) ?_
 refine ae rfl rfl rfl rfl (cn rfl rfl rfl) ?_
 try dsimp only [St.put]
 refine bc rfl rfl rfl rfl (cc rfl rfl) ?_
 refine ae rfl rfl rfl rfl (cn rfl rfl rfl) ?_
 try dsimp only [St.put]
 refine bc rfl rfl rfl rfl (cc rfl rfl) ?_
 refine ae rfl rfl rfl rfl (cn rfl rfl rfl) ?_
 try dsimp only [St.put]
 refine bc rfl rfl rfl rfl (cc rfl rfl) ?_
 refine ae rfl rfl rfl rfl (cn rfl rfl rfl) ?_
 try dsimp only [St.put]
 refine bc rfl rfl rfl rfl (cc rfl rfl) ?_
 refine ix ?_
 try dsimp only [St.put]
 refine je rfl rfl rfl (bd rfl rfl rfl (vv _ _) ⟨zD, ?_⟩)
 try dsimp only [St.put]
 refine je rfl rfl rfl (bd rfl rfl rfl (vv _ _) ⟨zD, ?_⟩)
 try dsimp only [St.put]
 refine gw rfl rfl rfl rfl (bd rfl rfl rfl (vv _ _) ?_)
 try dsimp only [St.put]
 refine gw rfl rfl rfl rfl (cb rfl rfl rfl (by decide) (by decide) zR (by decide) ?_)
 try dsimp only [St.put]
 refine gw rfl rfl rfl rfl (bd rfl rfl rfl (ubp [ii a.ch b.ch, ii a.ln b.ln, ii a.wd b.wd]) ?_)
 refine eb rfl rfl rfl rfl (fj rfl (by constructor)) ?_
 refine iw ?_
 dsimp only [St.put]
 refine K2 _ ?_
 refine ax ?_
 refine bf rfl (by constructor) zN zS ?_
 exact vi (ujl a b)
theorem ui6 (a b : List Int) (ha : a.length ≤ 1000) (hb : b.length ≤ 1000) : Pure Tryz.prog 57 [lst a, lst b] (.v (.int .i64 (w5 a b))) := by
 refine cz Tryz.func57 rfl (fun m => .v) fun G nx => ?_
 simp only [Tryz.ntmps57, List.length_cons, List.length_nil, Nat.reduceAdd, Nat.reduceSub]
 refine bx fun hlt => ?_
 dsimp only at hlt
 refine yS fun _ K1 => ?_
 refine yR ?_
 refine yA rfl rfl ?_
 refine yN ?_
 dsimp only [St.put]
 refine K1 _ ?_
 refine yS fun _ K2 => ?_
 refine yR ?_
 refine yM rfl rfl ?_
 refine aa rfl (bk rfl rfl (List.length_map _)) ?_
 refine yM rfl rfl ?_
 refine aa rfl (bk rfl rfl (List.length_map _)) ?_
 refine aa rfl (gy rfl rfl rfl (by omega)) ?_
 refine yM rfl rfl ?_
 refine yM rfl rfl ?_
 try dsimp only [St.put]
 refine af rfl (bd rfl rfl rfl (uml a b ha hb) ?_)
 try dsimp only [St.put]
 refine af rfl (cb rfl rfl rfl (by decide) (by decide) zR (by decide) ?_)
 try dsimp only [St.put]
 refine af rfl (bd rfl rfl rfl (ubp [(a.length : Int) - (b.length : Int), fe a b]) ?_)
 refine yA rfl rfl ?_
 refine yN ?_
 dsimp only [St.put]
 refine K2 _ ?_
 refine ax ?_
 refine bf rfl (by constructor) zN zS ?_
 rfl
theorem ui5 (t : ai) (q : PlaceD) (ht : dp t = true) : Pure Tryz.prog 83 [g9 t, val q] (.v (.bool (fo t q))) := by
 refine cz Tryz.func83 rfl (fun m => .v) fun G nx => ?_
 simp only [Tryz.ntmps83, List.length_cons, List.length_nil, Nat.reduceAdd, Nat.reduceSub]
 refine bx fun hlt => ?_
 dsimp only at hlt
 obtain ⟨hl1, hl2, hl3⟩ := kj ht
 refine yS fun _ K1 => ?_
 refine yR ?_
 try dsimp only [St.put]
 refine yB rfl rfl rfl ?_
 try dsimp only [St.put]
 refine yB rfl rfl rfl ?_
 refine yA rfl rfl ?_
 refine yN ?_
 dsimp only [St.put]
 refine K1 _ ?_
 refine yS fun _ K2 => ?_
 refine cr 5 ?_
 refine zQ ?_
 refine j4 (X := Bool) (fun b => b = !(g3 t (q.ch, q.ln)).isSome) (fun b => [(29, .v (.bool b))]) (fun b G' => G') rfl ?_ (fun _ _ _ _ h => .inl h) ?_ ?_
 ·rintro b hI
  exact zL
 ·refine qa [(0, none), (1, none), (2, none), (3, none), (4, none), (5, none)] (fun _ => false) (fun i => [0, 2, 3, 4].contains i) 19 (rl [6, 19]) (by kernel_rfl) (by kernel_rfl) ?_
  refine ae rfl rfl rfl rfl (cn rfl rfl rfl) ?_
  try dsimp only [St.put]
  refine bc rfl rfl rfl rfl (cc rfl rfl) ?_
  refine ae rfl rfl rfl rfl (bk rfl rfl (List.length_map _)) ?_
  refine ae rfl rfl rfl rfl (gy rfl rfl rfl (by omega)) ?_
  refine ae rfl rfl rfl rfl (cn rfl rfl rfl) ?_
  try dsimp only [St.put]
  refine bc rfl rfl rfl rfl (cc rfl rfl) ?_
  refine ay ?_
  refine d7 [6] (by kernel_rfl) (by simp) ?_
  refine dz ?_ ?_
  ·try dsimp only [St.put]
   refine iq rfl rfl rfl (cb rfl rfl rfl (by decide) (by decide) zR (by decide) ?_)
   refine d7 [7] (by kernel_rfl) (by simp) ?_
   refine dz ?_ ?_
   ·try dsimp only [St.put]
    refine iq rfl rfl rfl (bd rfl rfl rfl (mp _ _ [_]) ?_)
    refine ep [(8, none), (9, none), (10, none), (11, none), (12, none), (13, none), (14, none), (15, none), (16, none), (17, none), (18, none), (19, none), (20, none)] (fun i => [8, 9, 10, 12, 14, 15, 17, 18, 19].contains i) 4 (rl [21, 4]) (by kernel_rfl) ?_
    refine ae rfl rfl rfl rfl (dq rfl rfl) ?_
    refine xM rfl rfl rfl rfl rfl ?_
    refine ju (fun hs => ?_) (fun hs => ?_)
    ·have h8 : inB q.ch 0 ((t.length : Int) - 1) = false := by rw [gh] at hs; simpa using hs
     refine aj rfl rfl rfl ?_
     refine aj rfl rfl rfl ?_
     refine aj rfl rfl rfl ?_
     refine aj rfl rfl rfl ?_
     refine aj rfl rfl rfl ?_
     refine aj rfl rfl rfl ?_
     refine aj rfl rfl rfl ?_
     refine aj rfl rfl rfl ?_
     refine aj rfl rfl rfl ?_
     refine aj rfl rfl rfl ?_
     refine aj rfl rfl rfl ?_
     refine ay ?_
     refine d7 [21] (by kernel_rfl) (by simp) ?_
     refine dz ?_ ?_
     ·refine f8 rfl rfl rfl ?_
      refine d7 [22] (by kernel_rfl) (by simp) ?_
      refine dz ?_ ?_
      ·refine f8 rfl rfl rfl ?_
       refine ep [(23, none), (24, none)] (fun i => [23, 24].contains i) 0 (rl [25]) (by kernel_rfl) ?_
       refine aj rfl rfl rfl ?_
       refine ae rfl rfl rfl rfl (b9 rfl rfl (by constructor)) ?_
       refine ay ?_
       dsimp only [St.put]
       refine ij (by kernel_rfl) ?_
       refine ⟨_, ?_, ⟨⟨rfl, rfl⟩, zF, zB, zN, zX⟩⟩
       rw [ua]
       (simp [h8]; done)
      exact dx
     exact dx
    have h8 : inB q.ch 0 ((t.length : Int) - 1) = true := by rw [gh] at hs; simpa using hs
    have hn1' := h8
    simp only [inB_true] at hn1'
    obtain ⟨c, hcx⟩ : ∃ c, t[q.ch.toNat]? = some c := da (by omega)
    have hnl : kr t q.ch = c.lines.length := by simp [kr, hcx]
    have hll := (hl3 c (f4 hcx)).2.1
    have hch : q.ch = ((q.ch.toNat : Nat) : Int) := by omega
    refine ae rfl rfl rfl rfl (cn rfl rfl rfl) ?_
    try dsimp only [St.put]
    refine bc rfl rfl rfl rfl (cc rfl rfl) ?_
    refine ae rfl rfl rfl rfl (cn rfl rfl rfl) ?_
    try dsimp only [St.put]
    refine bc rfl rfl rfl rfl (cc rfl rfl) ?_
    try dsimp only [St.put]
    refine ae rfl rfl rfl rfl (bt rfl rfl rfl (by omega) (br (by assumption)) (Enc.len _)) ?_
    refine ae rfl rfl rfl rfl (cn rfl rfl rfl) ?_
    try dsimp only [St.put]
    refine bc rfl rfl rfl rfl (cc rfl rfl) ?_
    refine ae rfl rfl rfl rfl (bk rfl rfl (List.length_map _)) ?_
    refine ae rfl rfl rfl rfl (gy rfl rfl rfl (by omega)) ?_
    refine ae rfl rfl rfl rfl (cn rfl rfl rfl) ?_
    try dsimp only [St.put]
    refine bc rfl rfl rfl rfl (cc rfl rfl) ?_
    refine ay ?_
    refine d7 [21] (by kernel_rfl) (by simp) ?_
    refine dz ?_ ?_
    ·try dsimp only [St.put]
     refine iq rfl rfl rfl (cb rfl rfl rfl (by decide) (by decide) zR (by decide) ?_)
     refine d7 [22] (by kernel_rfl) (by simp) ?_
     refine dz ?_ ?_
     ·try dsimp only [St.put]
      refine iq rfl rfl rfl (bd rfl rfl rfl (mp _ _ [_]) ?_)
      refine ep [(23, none), (24, none)] (fun i => [23, 24].contains i) 0 (rl [25]) (by kernel_rfl) ?_
      refine ae rfl rfl rfl rfl (dq rfl rfl) ?_
      refine ae rfl rfl rfl rfl (co rfl rfl (by constructor)) ?_
      refine ay ?_
      dsimp only [St.put]
      refine ij (by kernel_rfl) ?_
      refine ⟨_, ?_, ⟨⟨rfl, rfl⟩, zF, zB, zN, zX⟩⟩
      rw [ua]
      (simp [h8, hnl, gh]; done)
     exact dx
    exact dx
   exact dx
  exact dx
 rintro b hst
 dsimp only at hst ⊢
 refine aw rfl (fun hc => ?_) (fun hc => ?_)
 ·have hw : g3 t (q.ch, q.ln) = none := by rw [hc] at hst; simpa using hst.symm
  refine yS fun _ K4 => ?_
  refine yR ?_
  refine yA rfl rfl ?_
  refine yN ?_
  dsimp only [St.put]
  refine K4 _ ?_
  refine ax ?_
  refine bf rfl (by constructor) zN zS ?_
  exact vb (by unfold fo; rw [hw])
 have hw0 : (g3 t (q.ch, q.ln)).isSome = true := by rw [hc] at hst; simpa using hst.symm
 obtain ⟨l, hw⟩ := Option.isSome_iff_exists.1 hw0
 obtain ⟨k, n, c, hkn, hk, hn⟩ := rp hw
 have hch : q.ch = ((k : Nat) : Int) := congrArg Prod.fst hkn
 have hln : q.ln = ((n : Nat) : Int) := congrArg Prod.snd hkn
 have hwl := t7 ht hw
 refine az ?_
 refine K2 _ ?_
 refine yS fun _ K5 => ?_
 refine gj [(0, none), (1, none), (2, none), (3, none), (4, none), (5, none), (6, none), (7, none), (8, none), (9, none), (10, none), (11, none), (12, none), (13, none), (14, none), (15, none), (16, none), (17, none)] (fun i => [16].contains i) (fun i => [15, 16].contains i) (fun i => [0, 2, 4, 5, 7, 9, 11, 12, 13, 17].contains i) [] (by kernel_rfl) (by kernel_rfl) ?_
 refine ae rfl rfl rfl rfl (cn rfl rfl rfl) ?_
 try dsimp only [St.put]
 refine bc rfl rfl rfl rfl (cc rfl rfl) ?_
 refine ae rfl rfl rfl rfl (cn rfl rfl rfl) ?_
 try dsimp only [St.put]
 refine bc rfl rfl rfl rfl (cc rfl rfl) ?_
 try dsimp only [St.put]
 refine ae rfl rfl rfl rfl (bt rfl rfl rfl (by omega) (br (by assumption)) (Enc.len _)) ?_
 refine ae rfl rfl rfl rfl (cn rfl rfl rfl) ?_
 try dsimp only [St.put]
 refine bc rfl rfl rfl rfl (cc rfl rfl) ?_
 refine ae rfl rfl rfl rfl (cn rfl rfl rfl) ?_
 try dsimp only [St.put]
 refine bc rfl rfl rfl rfl (cc rfl rfl) ?_
 try dsimp only [St.put]
 refine ae rfl rfl rfl rfl (bt rfl rfl rfl (by omega) (br (by assumption)) (Enc.len _)) ?_
 try dsimp only [St.put]
 refine bc rfl rfl rfl rfl (cc rfl rfl) ?_
 refine ae rfl rfl rfl rfl (bk rfl rfl (List.length_map _)) ?_
 refine ae rfl rfl rfl rfl (gy rfl rfl rfl (by omega)) ?_
 refine ae rfl rfl rfl rfl (cn rfl rfl rfl) ?_
 try dsimp only [St.put]
 refine bc rfl rfl rfl rfl (cc rfl rfl) ?_
 refine ix ?_
 try dsimp only [St.put]
 refine je rfl rfl rfl (cb rfl rfl rfl (by decide) (by decide) zR (by decide) ⟨zD, ?_⟩)
 try dsimp only [St.put]
 refine gw rfl rfl rfl rfl (bd rfl rfl rfl (mp _ _ [_]) ?_)
 refine eb rfl rfl rfl rfl (fj rfl (by constructor)) ?_
 refine iw ?_
 dsimp only [St.put]
 refine K5 _ ?_
 refine ax ?_
 refine bf rfl (by constructor) zN zS ?_
 exact vb (by unfold fo; rw [hw, gh])
theorem ui9 (t : ai) (ht : dp t = true) : Pure Tryz.prog 82 [g9 t] (.tup [lst (lx t t.length), .v (.int .i64 (l3 t : Int))]) := by
 refine cz Tryz.func82 rfl (fun m => .tup (cm (ca _ _) (cm .v dh))) fun G nx => ?_
 simp only [Tryz.ntmps82, List.length_cons, List.length_nil, Nat.reduceAdd, Nat.reduceSub]
 refine bx fun hlt => ?_
 dsimp only at hlt
 obtain ⟨hl1, hl2, hl3⟩ := kj ht
 refine yS fun _ K1 => ?_
 refine yR ?_
 try dsimp only [St.put]
 refine yB rfl rfl rfl ?_
 refine yA rfl rfl ?_
 refine yA rfl rfl ?_
 refine yN ?_
 dsimp only [St.put]
 refine K1 _ ?_
 refine yS fun _ K2 => ?_
 refine yR ?_
 refine yA rfl rfl ?_
 refine yN ?_
 dsimp only [St.put]
 refine K2 _ ?_
 refine m8 4 3 1 rfl (by decide) ?_
 dsimp only [List.set_cons_zero, List.set_cons_succ]
 refine yS fun _ K3 => ?_
 refine yR ?_
 refine yA rfl rfl ?_
 refine yN ?_
 dsimp only [St.put]
 refine K3 _ ?_
 refine yS fun _ K4 => ?_
 refine yS fun _ K5 => ?_
 refine yR ?_
 refine yF rfl rfl rfl rfl ?_
 refine yL rfl rfl rfl ?_
 refine aa rfl (bk rfl rfl (List.length_map _)) ?_
 refine yM rfl rfl ?_
 refine yN ?_
 dsimp only [St.put]
 refine K5 _ ?_
 refine bg ?_
 refine cr 12 ?_
 refine zQ ?_
 refine c6 (aq G nx (.tip 0 3 1)) zX ?_
 dsimp only
 refine c9 (X := Nat) (fun k => k ≤ t.length) (fun k => t.length - k) (fun k => [(4, .list ((lx t k).map cells) (.tip nx)), (5, .v (.int .i64 (fu t k : Int))), (7, .any), (11, .v (.int .i64 (k : Int)))]) (fun k G' => aq G nx (.tip (lx t k).length 3 1)) 0 rfl ?_ ?_ ?_ ?_ ?_ ?_
 ·exact Nat.zero_le _
 ·exact zF
 ·exact zX
 ·rintro k hI
  exact zL
 ·rintro k hI
  exact zH
 rintro k hI
 dsimp only at hI ⊢
 refine yS fun _ K6 => ?_
 refine yR ?_
 refine aa rfl (cv rfl rfl rfl) ?_
 refine yN ?_
 dsimp only [St.put]
 refine K6 _ ?_
 refine yS fun _ K7 => ?_
 refine aw rfl (fun hc => ?_) (fun hc => ?_)
 ·replace hc := of_decide_eq_true hc
  obtain ⟨c, hcx⟩ : ∃ c, t[k]? = some c := da (by omega)
  have hll := (hl3 c (f4 hcx)).2.1
  have hsl := uf ht k (by omega)
  have hst : ((fu t (k + 1) : Nat) : Int) = (fu t k : Int) + (c.lines.length : Int) := by rw [ru hcx]; omega
  have hln := uah t k
  refine az ?_
  refine K7 _ ?_
  refine yS fun _ K8 => ?_
  refine bg ?_
  refine yS fun _ K9 => ?_
  refine yR ?_
  refine aa rfl (bt rfl rfl rfl rfl (br (by assumption)) (Enc.len _)) ?_
  refine yE rfl rfl rfl ?_
  try dsimp only [St.put]
  refine af rfl (d8 rfl ?_)
  try dsimp only [St.put]
  refine af rfl (dc rfl rfl rfl zG rfl rfl (by rfl) ?_)
  refine yN ?_
  dsimp only [St.put]
  refine K9 _ ?_
  refine f7 (i := 7) rfl zG zC ?_
  dsimp only
  refine yS fun _ K10 => ?_
  refine yR ?_
  refine yM rfl rfl ?_
  refine yM rfl rfl ?_
  try dsimp only [St.put]
  refine af rfl (cb rfl rfl rfl (by decide) (by decide) zR (by decide) ?_)
  try dsimp only [St.put]
  refine af rfl (cg ([(fu t k : Int)]) rfl rfl zG zE rfl rfl zA ?_ zA)
  refine yA rfl rfl ?_
  refine yN ?_
  dsimp only [St.put]
  refine K10 _ ?_
  refine yR ?_
  refine yM rfl rfl ?_
  refine yF rfl rfl rfl rfl ?_
  refine yL rfl rfl rfl ?_
  refine aa rfl (bk rfl rfl (List.length_map _)) ?_
  refine aa rfl (bv rfl rfl rfl (by omega)) ?_
  refine yA rfl rfl ?_
  refine yN ?_
  dsimp only [St.put]
  refine K8 _ ?_
  refine yR ?_
  refine aa rfl (bv rfl rfl rfl (by omega)) ?_
  refine yM rfl rfl ?_
  refine yN ?_
  dsimp only [St.put]
  rw [← hst]
  simp only [← ug8]
  exact ⟨k + 1, by omega, by omega, ⟨⟨rfl, rfl⟩, zF, zB, zN, zX⟩⟩
 replace hc := of_decide_eq_false hc
 obtain rfl : k = t.length := by omega
 refine c4 ?_
 refine K4 _ ?_
 refine yS fun _ K11 => ?_
 refine yR ?_
 refine yM rfl rfl ?_
 refine yM rfl rfl ?_
 refine yA rfl rfl ?_
 refine yA rfl rfl ?_
 refine yN ?_
 dsimp only [St.put]
 refine K11 _ ?_
 refine ax ?_
 refine g6 rfl (ec (by constructor)) (ec (by constructor)) zN zS ?_ ?_
 ·exact zW
 exact Wk.of_eq (vi rfl)
end Go.Proofs.YtbbdginipiljdaaGreatDoor
namespace Go.AB
open Go Go.RowKit Go.ChangeShapes Go.WideShapes
open Go.AB.Enc (cells)
open Go.PB (ba ai PlaceD bh bj bi)
/-- What is read along a type is a datum. -/
class OpensE (P : Program) (t : TypeId) (α : Type) [Enc α] : Prop where
 n : P.cellsOf t = Enc.n α
 op : ∀ {H : Type} {enc : TypeId × Value → H} {w : World} {base : Nat} {spare : Nat → Bool} {held : Bool} {fuel : Nat} {cs : List Value} {x : DataW H × List MemPlace}, DataW.trod enc P w base spare held fuel t cs = some x → ∃ a : α, Rs (ir w) w (cells a) cs
def ta (P : Program) (t : TypeId) (k : IntKind) : Bool := match P.underlying t with | some (.int k') => k' == k && P.cellsOf t == 1 | _ => false
def wx (P : Program) (t : TypeId) : Bool := match P.underlying t with | some .string => P.cellsOf t == 1 | _ => false
def w4 (P : Program) (t e : TypeId) : Bool := match P.underlying t with | some (.slice e') => e' == e && P.cellsOf t == 1 | _ => false
def jm (P : Program) (t : TypeId) (l : List (Nat × TypeId × Nat)) (n : Nat) : Bool := match P.underlying t with
 | some (.struct fs) => (fs.toList.map fun f => (f.offset, f.type, P.cellsOf f.type)) == l && P.cellsOf t == n
 | _ => false
theorem wfI64 {n : Int} (h : (Lit.int .i64 n).wf = true) : okV (.int .i64 n) = true := by
 simp [Lit.wf, IntKind.min, IntKind.max, IntKind.signed, IntKind.bits] at h
 exact jw ⟨by omega, by omega⟩
theorem wfU8 {n : Int} (h : (Lit.int .u8 n).wf = true) : okV (.int .u8 n) = true := by
 simp [Lit.wf, IntKind.min, IntKind.max, IntKind.signed, IntKind.bits] at h
 exact xp ⟨by omega, by omega⟩
section
variable {P : Program} {t e : TypeId}
theorem yb {k : IntKind} (h : ta P t k = true) : P.underlying t = some (.int k) ∧ P.cellsOf t = 1 := by
 unfold ta at h
 split at h
 ·rename_i k' he
  simp only [Bool.and_eq_true, beq_iff_eq] at h
  rw [he, h.1]; exact ⟨rfl, h.2⟩
 ·cases h
theorem uaf (h : wx P t = true) : P.underlying t = some .string ∧ P.cellsOf t = 1 := by
 unfold wx at h
 split at h
 ·rename_i he; exact ⟨he, by simpa using h⟩
 ·cases h
theorem uao (h : w4 P t e = true) : P.underlying t = some (.slice e) ∧ P.cellsOf t = 1 := by
 unfold w4 at h
 split at h
 ·rename_i k' he
  simp only [Bool.and_eq_true, beq_iff_eq] at h
  rw [he, h.1]; exact ⟨rfl, h.2⟩
 ·cases h
theorem Rs.single {E : Env} {w : World} {c : C} {v : Value} (h : R E w c v) : Rs E w [c] [v] := Rs.cons h Rs.nil
theorem Rs.single_inv {E : Env} {w : World} {c : C} {v : Value} (h : Rs E w [c] [v]) : R E w c v := h.2 0 c v rfl rfl
theorem OpensE.int (h : ta P t .i64 = true) : OpensE P t Int where
 n := (yb h).2
 op hx := by
  obtain ⟨n, rfl, _, h2⟩ := DataW.trod_int (yb h).1 hx
  exact ⟨n, Rs.single (.v (wfI64 h2))⟩
theorem OpensE.str (h : wx P t = true) : OpensE P t ByteArray where
 n := (uaf h).2
 op hx := by
  obtain ⟨s, rfl, _, h2⟩ := DataW.trod_string (uaf h).1 hx
  exact ⟨s, Rs.single (.v (okV_str.2 (by simpa [maxLen] using h2)))⟩
theorem ug9 {w : World} {a : Addr} {v : Value} (h : w.cell? a = some v) : a.spot = none := by
 unfold World.cell? at h
 split at h
 ·split at h
  ·cases h
  ·rename_i hs
   cases hsp : a.spot with
   | none => rfl
   | some s => simp [hsp] at hs
 ·cases h
theorem ucp {α : Type} {p : Nat → α → Prop} : ∀ (n : Nat), (∀ i, i < n → ∃ x, p i x) → ∃ xs : List α, xs.length = n ∧ ∀ i x, xs[i]? = some x → p i x
 | 0, _ => ⟨[], rfl, fun i x h => by simp at h⟩
 | n + 1, h => by
  obtain ⟨xs, h1, h2⟩ := ucp n fun i hi => h i (by omega)
  obtain ⟨y, hy⟩ := h n (by omega)
  refine ⟨xs ++ [y], by simp [h1], fun i x hx => ?_⟩
  by_cases hi : i < xs.length
  ·rw [List.getElem?_append_left hi] at hx; exact h2 i x hx
  ·rw [List.getElem?_append_right (by omega)] at hx
   have hz : i - xs.length = 0 := by
    have := (List.getElem?_eq_some_iff.1 hx).1
    simp at this; omega
   rw [hz] at hx
   simp at hx
   subst hx
   rw [show i = n by omega]; exact hy
theorem ua0 {α : Type} [Enc α] {E : Env} {w : World} {b : Nat} : ∀ (xs : List α) (off : Nat), (∀ i x, xs[i]? = some x → ∃ es, Rs E w (cells x) es ∧ ∀ j e, es[j]? = some e → w.cell? ⟨b, off + i * Enc.n α + j, none⟩ = some e) →
  ∃ us, Rs E w (xs.map cells).flatten us ∧ ∀ j u, us[j]? = some u → w.cell? ⟨b, off + j, none⟩ = some u
 | [], off, _ => ⟨[], Rs.nil, by simp⟩
 | x :: xs, off, h => by
  obtain ⟨es, h1, h2⟩ := h 0 x rfl
  obtain ⟨us, h3, h4⟩ := ua0 xs (off + Enc.n α) fun i y hy => by
   obtain ⟨fs, k1, k2⟩ := h (i + 1) y (by simpa using hy)
   exact ⟨fs, k1, fun j e he => by rw [← k2 j e he]; congr 2; rw [Nat.add_mul]; omega⟩
  have hl : es.length = Enc.n α := by rw [h1.1]; exact Enc.len x
  refine ⟨es ++ us, by rw [List.map_cons, List.flatten_cons]; exact h1.append h3, fun j u hu => ?_⟩
  by_cases hj : j < es.length
  ·rw [List.getElem?_append_left hj] at hu
   rw [← h2 j u hu]; congr 2; omega
  ·rw [List.getElem?_append_right (by omega)] at hu
   rw [← h4 _ u hu]; congr 2; omega
theorem OpensE.slice {α : Type} [Enc α] [o : OpensE P e α] (h : w4 P t e = true) (hpos : 1 ≤ Enc.n α) : OpensE P t (List α) where
 n := (uao h).2
 op {H enc w base spare held fuel cs x} hx := by
  rcases Deep.open_slice (uao h).1 hx with ⟨rfl, _⟩ | ⟨a, len, cap, m, n, D, Pl, rfl, hb, hl, hm, hmm, _, hel⟩
  ·refine ⟨[], Rs.single ?_⟩
   exact R.mk_list (rows := []) (sz := 1) (us := []) (Nat.le_refl _) (Nat.zero_le _) (Nat.le_refl _) (by simp) (by simp) Rs.nil (.inl rfl) (by simp) (by simp) (by simp)
  ·have hlm : len ≤ m := by rw [hmm]; split <;> omega
   have hs : 0 < len → a.spot = none := fun h0 => by
    obtain ⟨cs', hc, ht⟩ := hel 0 (by omega)
    obtain ⟨_, hlen, hcell⟩ := World.cells?_some hc
    rw [o.n] at hlen hcell
    have := hcell 0 (by omega)
    rw [List.getElem?_eq_getElem (by omega)] at this
    have := ug9 this
    simpa [Addr.add] using this
   obtain ⟨xs, h1, h2⟩ := ucp (p := fun i (y : α) => ∃ es, Rs (ir w) w (cells y) es ∧ ∀ j e, es[j]? = some e → w.cell? ⟨a.block, a.off + i * Enc.n α + j, none⟩ = some e) len fun i hi => by
    obtain ⟨cs', hc, ht⟩ := hel i (by omega)
    obtain ⟨y, hy⟩ := o.op ht
    obtain ⟨_, hlen, hcell⟩ := World.cells?_some hc
    rw [o.n] at hlen hcell hc
    have hs' := hs (by omega)
    refine ⟨y, cs', hy, fun j u hj => ?_⟩
    have hj' : j < Enc.n α := by rw [← hlen]; exact (List.getElem?_eq_some_iff.1 hj).1
    have := hcell j hj'
    rw [hj] at this
    rw [← this]
    obtain ⟨ab, ao, asp⟩ := a
    dsimp only at hs'
    subst hs'
    rw [qd, qd]
   subst h1
   refine ⟨xs, Rs.single ?_⟩
   obtain ⟨us, k1, k2⟩ := ua0 (E := ir w) (w := w) (b := a.block) xs a.off h2
   have := R.mk_list (E := ir w) (w := w) (rows := xs.map cells) (a := some a) (cap := cap) (sz := Enc.n α) (us := us) (tok := .none) (by simpa using hl) hm hpos (lk xs) (fun r hr c hc => by
    obtain ⟨x, _, rfl⟩ := List.mem_map.1 hr
    exact Enc.one x c hc) k1 (by
    by_cases hxs : xs = []
    ·subst hxs; exact .inl rfl
    ·right
     have hs' := hs (List.length_pos_iff.2 hxs)
     obtain ⟨ab, ao, asp⟩ := a
     dsimp only at hs'
     subst hs'
     refine ⟨ab, ao, rfl, ?_, k2⟩
     have h0 : 0 < us.length := by
      rw [k1.1, m5 (lk xs), List.length_map]
      exact Nat.mul_pos (List.length_pos_iff.2 hxs) hpos
     have := y8 (k2 (us.length - 1) _ (List.getElem?_eq_getElem (by omega)))
     dsimp only at this
     show ao + us.length ≤ n7 w ab
     omega) (by simp) (by simp) (by simp)
   rw [List.length_map] at this
   exact this
theorem uag {l : List (Nat × TypeId × Nat)} {n : Nat} (h : jm P t l n = true) {H : Type} {enc : TypeId × Value → H} {w : World} {base : Nat} {spare : Nat → Bool} {held : Bool} {fuel : Nat} {cs : List Value} {x : DataW H × List MemPlace}
  (hx : DataW.trod enc P w base spare held fuel t cs = some x) : cs.length = n ∧ ∀ p ∈ l, ∃ m y, DataW.trod enc P w base spare held m p.2.1 ((cs.drop p.1).take p.2.2) = some y := by
 unfold jm at h
 split at h
 ·rename_i fs he
  simp only [Bool.and_eq_true, beq_iff_eq] at h
  obtain ⟨xs, m, _, _, hl, hlen, hf⟩ := DataW.trod_struct he hx
  refine ⟨by rw [hl, h.2], fun p hp => ?_⟩
  rw [← h.1] at hp
  obtain ⟨f, hfm, rfl⟩ := List.mem_map.1 hp
  obtain ⟨i, hi⟩ := List.getElem?_of_mem hfm
  have hi' : fs[i]? = some f := by simpa using hi
  have hlt : i < xs.length := by rw [hlen]; exact (Array.getElem?_eq_some_iff.1 hi').1
  exact ⟨m, xs[i], by rw [← List.getElem?_eq_getElem hlt]; exact hf i f hi'⟩
 ·cases h
theorem ue {l : List (Nat × TypeId × Nat)} {n : Nat} (h : jm P t l n = true) : P.cellsOf t = n ∧ ∃ fs, P.underlying t = some (.struct fs) := by
 unfold jm at h
 split at h
 ·rename_i fs he
  simp only [Bool.and_eq_true, beq_iff_eq] at h
  exact ⟨h.2, fs, he⟩
 ·cases h
/-- A struct of one field. -/
theorem OpensE.one {α : Type} [Enc α] [o : OpensE P e α] (h : jm P t [(0, e, Enc.n α)] (Enc.n α) = true) : OpensE P t α where
 n := (ue h).1
 op {H enc w base spare held fuel cs x} hx := by
  obtain ⟨hl, hp⟩ := uag h hx
  obtain ⟨m, y, hy⟩ := hp _ (List.mem_cons_self ..)
  obtain ⟨a, ha⟩ := o.op hy
  dsimp only at ha
  rw [List.drop_zero, List.take_of_length_le (by omega)] at ha
  exact ⟨a, ha⟩
/-- A struct, field by field. -/
theorem OpensE.struct {α : Type} [Enc α] {l : List (Nat × TypeId × Nat)} (h : jm P t l (Enc.n α) = true)
  (b : ∀ (w : World) (cs : List Value), cs.length = Enc.n α → (∀ p ∈ l, ∀ (β : Type) (_ : Enc β), OpensE P p.2.1 β → ∃ a : β, Rs (ir w) w (cells a) ((cs.drop p.1).take p.2.2)) → ∃ a : α, Rs (ir w) w (cells a) cs) : OpensE P t α where
 n := (ue h).1
 op {H enc w base spare held fuel cs x} hx := by
  obtain ⟨hl, hp⟩ := uag h hx
  exact b w cs hl fun p hpl β _ o => let ⟨_, _, hy⟩ := hp p hpl; o.op hy
theorem OpensE.chap {tI tL : TypeId} [oI : OpensE P tI Int] [oL : OpensE P tL (List (List ByteArray))] (h : jm P t [(0, tI, 1), (1, tL, 1)] 2 = true) : OpensE P t ba :=
 .struct (α := ba) h fun w cs hl hp => by
  obtain ⟨a, ha⟩ := hp (0, tI, 1) (by simp) Int inferInstance oI
  obtain ⟨b, hb⟩ := hp (1, tL, 1) (by simp) (List (List ByteArray)) inferInstance oL
  match cs, hl with
  | [u, v], _ => exact ⟨⟨a, b⟩, Rs.cons (Rs.single_inv ha) hb⟩
theorem OpensE.place {tI : TypeId} [oI : OpensE P tI Int] (h : jm P t [(0, tI, 1), (1, tI, 1), (2, tI, 1)] 3 = true) : OpensE P t PlaceD :=
 .struct (α := PlaceD) h fun w cs hl hp => by
  obtain ⟨a, ha⟩ := hp (0, tI, 1) (by simp) Int inferInstance oI
  obtain ⟨b, hb⟩ := hp (1, tI, 1) (by simp) Int inferInstance oI
  obtain ⟨c, hc⟩ := hp (2, tI, 1) (by simp) Int inferInstance oI
  match cs, hl with
  | [u, v, x], _ => exact ⟨⟨a, b, c⟩, Rs.cons (Rs.single_inv ha) (Rs.cons (Rs.single_inv hb) hc)⟩
/-- An argument that is a struct; a number. -/
theorem OpensE.arg {α : Type} [Enc α] [o : OpensE P t α] {l : List (Nat × TypeId × Nat)} {n : Nat} (h : jm P t l n = true) {H : Type} {enc : TypeId × Value → H} {w : World} {base : Nat} {spare : Nat → Bool} {held : Bool} {r : Reach} {b0 : Nat} {v : Value} {d : DataW H} {ps : List MemPlace}
  (hv : Value.okWide P w r b0 t v) (hd : DataW.Trod enc P w base spare held t v d ps) : ∃ a : α, R (ir w) w (.agg (cells a)) v := by
 obtain ⟨fs, hs⟩ := (ue h).2
 obtain ⟨cs, rfl, _⟩ := okWide_struct hs hv
 obtain ⟨fuel, hf⟩ := hd
 obtain ⟨a, ha⟩ := o.op hf
 exact ⟨a, by simpa [Value.cells] using Rs.agg ha (Enc.one a)⟩
end
theorem uk4 {P : Program} {f : FuncId} {cs : List C} {v fv : Value} {fc : C} (hp : PureF (.fact fv fc) P f cs (.v v)) {w : World} {args : List Value} (hF : R (ir w) w fc fv) (hr : Rs (ir w) w cs args) :
  Calls P f args.toArray w fun e w' => e = .returned v ∧ Below w.heap.size w w' := by
 obtain ⟨E1, v1, g1⟩ := udo (ufb w) hF
 refine (hp _ _ (ni _ _ _) E1 w args (hr.ev v1) g1).mono ?_
 rintro e w' ⟨r, x, E', G', nx', rfl, hev, hx, _, rfl, _⟩
 exact ⟨by rw [hx.v_inv], by have := hev.below; rw [v1.B] at this; exact this⟩
end Go.AB
namespace Go.AB
open Go Go.RowKit Go.ChangeShapes Go.WideShapes
open Go.AB.Enc (cells)
variable {P : Program} {o : Oper} {st : St}
theorem n_rem {xt yt : TypeId} {x y : Operand} {m n : Int} (ho : o.op = .binOp .rem xt x y yt) (hx : evC st x = .v (.int .i64 m)) (hy : evC st y = .v (.int .i64 n)) (hm : 0 ≤ m ∧ m ≤ 9223372036854775807) (hn : 0 < n) : NStep P o st (.v (.int .i64 (m % n))) :=
 j9 ho hx hy (jw (by have h1 := Int.emod_nonneg m (b := n) (by omega); have h2 := Int.mul_ediv_add_emod m n; have h3 := Int.mul_nonneg (Int.le_of_lt hn) (Int.ediv_nonneg hm.1 (Int.le_of_lt hn)); omega)) fun w => by
  have h1 : ¬ n = 0 := by omega
  have h2 : m.tmod n = m % n := Int.tmod_eq_emod_of_nonneg hm.1
  simp [eqGuard, binOp, Op.intDiv, h1, h2]
theorem uj9 {s d : TypeId} {x : Operand} {k : IntKind} {n : Int} (ho : o.op = .convert s d x) (hx : evC st x = .v (.int k n)) (hs : (P.underlying s).isSome = true) (hd : P.underlying d = some (.int .i64)) (hn : -9223372036854775808 ≤ n ∧ n ≤ 9223372036854775807) : NStep P o st (.v (.int .i64 n)) := fun E w a h => by
 have e1 := (hx ▸ h.ev x).v_inv
 refine ⟨_, .v (jw hn), fun w' => ?_⟩
 have hk : P.intKind d = .i64 := by simp [Program.intKind, hd]
 have hw : IntKind.i64.wrap n = n := by rw [IntKind.wrap_i64]; omega
 have := run_convert_int (P := P) w' s d k n hs (by rw [hk]; exact hd)
 rw [hk, hw] at this
 simp [execOp, ho, e1, this]
theorem OpensE.argU8 {t : TypeId} (h : ta P t .u8 = true) {H : Type} {enc : TypeId × Value → H} {w : World} {base : Nat} {spare : Nat → Bool} {held : Bool} {r : Reach} {b0 : Nat} {v : Value} {d : DataW H} {ps : List MemPlace}
  (hv : Value.okWide P w r b0 t v) (hd : DataW.Trod enc P w base spare held t v d ps) : ∃ a : Int, R (ir w) w (.v (.int .u8 a)) v := by
 obtain ⟨i, rfl, _, _, wi⟩ := open_int (yb h).1 hv hd
 exact ⟨i, .v (wfU8 wi)⟩
theorem uge {n : Int} (h : (C.v (.int .u8 n)).fit) : 0 ≤ n ∧ n ≤ 255 := (okV_int.1 (fit_v.1 h) : _)
end Go.AB
namespace Go.AB
open Go Go.RowKit
open Go.AB.Enc (cells)
variable {P : Program} {o : Oper} {st : St}
theorem sk {xt yt : TypeId} {x y : Operand} {m n : Int} (ho : o.op = .binOp .mul xt x y yt) (hx : evC st x = .v (.int .i64 m)) (hy : evC st y = .v (.int .i64 n)) (hb : -9223372036854775808 ≤ m * n ∧ m * n ≤ 9223372036854775807) : NStep P o st (.v (.int .i64 (m * n))) :=
 j9 ho hx hy (jw hb) fun w => by
  have : IntKind.i64.wrap (m * n) = m * n := by rw [IntKind.wrap_i64]; omega
  simp [eqGuard, binOp, Op.intArith, this]
theorem sj {xt yt : TypeId} {x y : Operand} {m n : Int} (ho : o.op = .binOp .quo xt x y yt) (hx : evC st x = .v (.int .i64 m)) (hy : evC st y = .v (.int .i64 n)) (hm : 0 ≤ m ∧ m ≤ 9223372036854775807) (hn : 0 < n) : NStep P o st (.v (.int .i64 (m / n))) := by
 have h3 : 0 ≤ m / n := Int.ediv_nonneg hm.1 (by omega)
 have h4 : m / n ≤ m := Int.ediv_le_self _ hm.1
 exact j9 ho hx hy (jw (by omega)) fun w => by
  have h1 : ¬ n = 0 := by omega
  have h2 : m.tdiv n = m / n := Int.tdiv_eq_ediv_of_nonneg hm.1
  have h5 : IntKind.i64.wrap (m / n) = m / n := by rw [IntKind.wrap_i64]; omega
  simp [eqGuard, binOp, Op.intDiv, h1, h2, h5]
theorem ugf {n : Nat} (h : n ≤ 62) : (2 : Int) ^ n ≤ 4611686018427387904 := by
 have : 2 ^ n ≤ 2 ^ 62 := Nat.pow_le_pow_right (by omega) h
 have h2 : ((2 ^ n : Nat) : Int) = (2 : Int) ^ n := by norm_cast
 rw [← h2]
 have h3 : (2 : Nat) ^ 62 = 4611686018427387904 := by decide
 omega
/-- one, shifted -/
theorem ub7 {xt yt : TypeId} {x y : Operand} {n : Nat} (ho : o.op = .binOp .shl xt x y yt) (hx : evC st x = .v (.int .i64 1)) (hy : evC st y = .v (.int .i64 (n : Int))) (hn : n ≤ 62) : NStep P o st (.v (.int .i64 ((2 ^ n : Nat) : Int))) := by
 have h0 := ugf hn
 have h2 : ((2 ^ n : Nat) : Int) = (2 : Int) ^ n := by norm_cast
 have h1 : 0 ≤ ((2 ^ n : Nat) : Int) := Int.natCast_nonneg _
 exact j9 ho hx hy (jw (by omega)) fun w => by
  have e1 : ¬ ((n : Int) < 0) := by omega
  have e2 : min (n : Int).toNat IntKind.i64.bits = n := by rw [Int.toNat_natCast]; show min n 64 = n; omega
  have e3 : IntKind.i64.wrap (1 * 2 ^ n) = ((2 ^ n : Nat) : Int) := by rw [Int.one_mul, ← h2, IntKind.wrap_i64]; omega
  simp only [eqGuard, binOp, Op.shift, e1, if_false, e2, e3]
  rfl
/-- a number that is not below 0, shifted back -/
theorem xw {xt yt : TypeId} {x y : Operand} {k : IntKind} {m n : Nat} (ho : o.op = .binOp .shr xt x y yt) (hx : evC st x = .v (.int k (m : Int))) (hy : evC st y = .v (.int .i64 (n : Int))) (hn : n ≤ k.bits) (hm : (m : Int) ≤ hiK k) (hk : loK k ≤ 0) : NStep P o st (.v (.int k ((m / 2 ^ n : Nat) : Int))) := by
 have h4 : m / 2 ^ n ≤ m := Nat.div_le_self _ _
 exact n_int' ho hx hy (okV_int.2 (by obtain ⟨q, hq⟩ : ∃ q, m / 2 ^ n = q := ⟨_, rfl⟩; rw [hq] at h4 ⊢; omega)) fun w => by
  have e1 : ¬ ((n : Int) < 0) := by omega
  have e2 : min (n : Int).toNat k.bits = n := by rw [Int.toNat_natCast]; omega
  have e3 : (m : Int).fdiv (2 ^ n) = ((m / 2 ^ n : Nat) : Int) := by
   have h2 : ((2 ^ n : Nat) : Int) = (2 : Int) ^ n := by norm_cast
   rw [← h2, Int.fdiv_eq_ediv_of_nonneg _ (Int.natCast_nonneg _)]
   norm_cast
  simp only [eqGuard, binOp, Op.shift, e1, if_false, e2, e3]
  rfl
where
 n_int' {op : BinOp} {xt yt : TypeId} {x y : Operand} {k k' : IntKind} {m n : Int} {r : Value} (ho : o.op = .binOp op xt x y yt) (hx : evC st x = .v (.int k m)) (hy : evC st y = .v (.int k' n))
  (h1 : okV r = true) (h : ∀ w, (do eqGuard op xt x y (.int k m) (.int k' n); binOp op xt (.int k m) (.int k' n)).run P w = .ok r w) : NStep P o st (.v r) := fun E w a hs => by
  have e1 := (hx ▸ hs.ev x).v_inv
  have e2 := (hy ▸ hs.ev y).v_inv
  refine ⟨r, .v h1, fun w' => ?_⟩
  have := h w'
  simp only [execOp, ho, e1, e2, Sem.run_bind] at this ⊢
  rw [this]
  rfl
/-- the last bit -/
theorem xy {xt yt : TypeId} {x y : Operand} {k : IntKind} {m : Nat} (ho : o.op = .binOp .and xt x y yt) (hx : evC st x = .v (.int k (m : Int))) (hy : evC st y = .v (.int k 1)) (hm : m < 2 ^ k.bits) (hb : 2 ≤ k.bits) : NStep P o st (.v (.int k ((m % 2 : Nat) : Int))) := by
 have h2 : m % 2 < 2 := Nat.mod_lt _ (by omega)
 exact j9 ho hx hy (okV_int.2 (by cases k <;> simp only [loK, hiK] <;> omega)) fun w => by
  have e1 : (BitVec.ofInt k.bits (m : Int) &&& BitVec.ofInt k.bits 1).toNat = m % 2 := by
   have q1 : (BitVec.ofInt k.bits (m : Int)).toNat = m := by
    rw [show BitVec.ofInt k.bits (m : Int) = BitVec.ofNat k.bits m from BitVec.ofInt_natCast .., BitVec.toNat_ofNat, Nat.mod_eq_of_lt hm]
   have q2 : (BitVec.ofInt k.bits 1).toNat = 1 := by
    rw [show BitVec.ofInt k.bits 1 = BitVec.ofNat k.bits 1 from BitVec.ofInt_natCast k.bits 1, BitVec.toNat_ofNat, Nat.mod_eq_of_lt]
    exact Nat.one_lt_two_pow (by omega)
   rw [BitVec.toNat_and, q1, q2, Nat.and_one_is_mod]
  have e2 : k.wrap ((m % 2 : Nat) : Int) = ((m % 2 : Nat) : Int) := by
   have : m % 2 = 0 ∨ m % 2 = 1 := by omega
   rcases this with h | h <;> rw [h] <;> cases k <;> decide
  simp only [eqGuard, binOp, Op.intBits, e1, e2]
  simp
end Go.AB
namespace Go.AB
open Go Go.RowKit
open Go.AB.Enc (cells)
open Go.PB (ba ai PlaceD bh bj bi bu am ah cy bq dd dj)
theorem uak {t : ai} (ht : dp t = true) (k : Nat) : fu t k ≤ 60 := by
 obtain ⟨_, h2, h3⟩ := kj ht
 have key : ∀ j, j ≤ t.length → fu t j ≤ j * 10 := by
  intro j
  induction j with
  | zero => intro _; rw [uaj]; exact Nat.zero_le _
  | succ j ih =>
   intro hj
   have hc : t[j]? = some t[j] := List.getElem?_eq_getElem (by omega)
   rw [ru hc]
   have := (h3 _ (List.mem_of_getElem? hc)).2.1
   have := ih (by omega)
   omega
 by_cases q : k ≤ t.length
 ·have := key k q; omega
 have h1 := key t.length (Nat.le_refl _)
 have e : fu t k = fu t t.length := by
  unfold fu
  rw [List.take_of_length_le (show t.length ≤ k by omega), List.take_of_length_le (Nat.le_refl _)]
 omega
instance decLtW : ∀ a b : List Int, Decidable (ltW a b)
 | [], _ => isFalse (by simp [ltW])
 | _ :: _, [] => isFalse (by simp [ltW])
 | x :: a, y :: b => by
  have := decLtW a b
  unfold ltW
  exact inferInstance
end Go.AB
namespace Go.Proofs.YtbbdginipiljdaaGreatDoor
set_option maxRecDepth 10000
open Go.RowKit Go.AB
open Go.AB.Enc (cells)
open Go.PB (ba ai PlaceD bh bj bi bu am ah cy bq dd dj)
theorem oy (n lo hi : Int) : Pure Tryz.prog 71 [.v (.int .i64 n), .v (.int .i64 lo), .v (.int .i64 hi)] (.v (.bool (inB n lo hi))) := by
 refine cz Tryz.func71 rfl (fun m => .v) fun G nx => ?_
 simp only [Tryz.ntmps71, List.length_cons, List.length_nil, Nat.reduceAdd, Nat.reduceSub]
 refine bx fun hlt => ?_
 dsimp only at hlt
 refine yS fun _ K1 => ?_
 refine yR ?_
 refine yA rfl rfl ?_
 refine yN ?_
 dsimp only [St.put]
 refine K1 _ ?_
 refine yS fun _ K2 => ?_
 refine yR ?_
 refine yM rfl rfl ?_
 refine yM rfl rfl ?_
 refine aa rfl (mu rfl rfl rfl) ?_
 refine eo (fun hs => ?_) (fun hs => ?_)
 ·try replace hs := of_decide_eq_true hs
  refine yM rfl rfl ?_
  refine yM rfl rfl ?_
  refine yM rfl rfl ?_
  refine aa rfl (pv rfl rfl rfl) ?_
  refine aa rfl (b9 rfl rfl (by constructor)) ?_
  refine yA rfl rfl ?_
  refine yN ?_
  dsimp only [St.put]
  refine K2 _ ?_
  refine ax ?_
  refine bf rfl (by constructor) zN zS ?_
  exact vb (by simp [inB, hs]; try omega)
 try replace hs := of_decide_eq_false hs
 refine yM rfl rfl ?_
 refine yK rfl ?_
 refine yK rfl ?_
 refine yK rfl ?_
 refine aa rfl (co rfl rfl (by constructor)) ?_
 refine yA rfl rfl ?_
 refine yN ?_
 dsimp only [St.put]
 refine K2 _ ?_
 refine ax ?_
 refine bf rfl (by constructor) zN zS ?_
 exact vb (by simp [inB, hs]; try omega)
theorem uil (t : ai) (ht : dp t = true) : Pure Tryz.prog 107 [g9 t] (.v (.int .i64 (l3 t : Int))) := by
 refine cz Tryz.func107 rfl (fun m => .v) fun G nx => ?_
 simp only [Tryz.ntmps107, List.length_cons, List.length_nil, Nat.reduceAdd, Nat.reduceSub]
 refine bx fun hlt => ?_
 dsimp only at hlt
 obtain ⟨hl1, hl2, hl3⟩ := kj ht
 refine yS fun _ K1 => ?_
 refine yR ?_
 try dsimp only [St.put]
 refine yB rfl rfl rfl ?_
 refine yA rfl rfl ?_
 refine yN ?_
 dsimp only [St.put]
 refine K1 _ ?_
 refine yS fun _ K2 => ?_
 refine yR ?_
 refine yA rfl rfl ?_
 refine yN ?_
 dsimp only [St.put]
 refine K2 _ ?_
 refine yS fun _ K3 => ?_
 refine yS fun _ K4 => ?_
 refine yR ?_
 refine yA rfl rfl ?_
 refine yN ?_
 dsimp only [St.put]
 refine K4 _ ?_
 refine bg ?_
 refine cr 5 ?_
 refine zQ ?_
 refine c6 (G) zX ?_
 dsimp only
 refine c9 (X := Nat) (fun k => k ≤ t.length) (fun k => t.length - k) (fun k => [(3, .v (.int .i64 ((fu t k : Nat) : Int))), (4, .v (.int .i64 (k : Int)))]) (fun k G' => G') 0 rfl ?_ ?_ (fun _ _ h => h) ?_ ?_ ?_
 ·exact Nat.zero_le _
 ·exact zF
 ·rintro k hI
  exact zL
 ·exact fun _ _ _ _ h => .inl h
 rintro k hI
 dsimp only at hI ⊢
 refine yS fun _ K5 => ?_
 refine yS fun _ K6 => ?_
 refine yR ?_
 refine yM rfl rfl ?_
 refine yF rfl rfl rfl rfl ?_
 refine yL rfl rfl rfl ?_
 refine aa rfl (bk rfl rfl (List.length_map _)) ?_
 refine aa rfl (cv rfl rfl rfl) ?_
 refine yN ?_
 dsimp only [St.put]
 refine K6 _ ?_
 refine aw rfl (fun hc => ?_) (fun hc => ?_)
 ·replace hc := of_decide_eq_true hc
  obtain ⟨c, hk⟩ : ∃ x, t[k]? = some x := da (by omega)
  have hcl := hl3 c (f4 hk)
  have hst := uak ht k
  refine az ?_
  refine K5 _ ?_
  refine yS fun _ K7 => ?_
  refine bg ?_
  refine yR ?_
  refine yM rfl rfl ?_
  refine yF rfl rfl rfl rfl ?_
  refine yL rfl rfl rfl ?_
  refine yM rfl rfl ?_
  refine aa rfl (bt rfl rfl rfl rfl (br (by assumption)) (Enc.len _)) ?_
  refine yF rfl rfl rfl rfl ?_
  refine yL rfl rfl rfl ?_
  refine aa rfl (bk rfl rfl (List.length_map _)) ?_
  refine aa rfl (bv rfl rfl rfl (by omega)) ?_
  refine yA rfl rfl ?_
  refine yN ?_
  dsimp only [St.put]
  refine K7 _ ?_
  refine yR ?_
  refine yM rfl rfl ?_
  refine aa rfl (bv rfl rfl rfl (by omega)) ?_
  refine yA rfl rfl ?_
  refine yN ?_
  dsimp only [St.put]
  have e := ru hk
  rw [show ((fu t k : Nat) : Int) + (c.lines.length : Int) = ((fu t (k + 1) : Nat) : Int) by rw [e]; rfl]
  exact ⟨k + 1, by omega, by omega, ⟨⟨rfl, rfl⟩, zF, zB, zN, zX⟩⟩
 replace hc := of_decide_eq_false hc
 obtain rfl : k = t.length := by omega
 refine c4 ?_
 refine K3 _ ?_
 refine yS fun _ K8 => ?_
 refine yR ?_
 refine yM rfl rfl ?_
 refine yA rfl rfl ?_
 refine yN ?_
 dsimp only [St.put]
 refine K8 _ ?_
 refine ax ?_
 refine bf rfl (by constructor) zN zS ?_
 rfl
theorem xf (t : ai) (q : PlaceD) (ht : dp t = true) (hq : fo t q = true) : Pure Tryz.prog 25 [g9 t, val q] (.v (.int .i64 (pz t q))) := by
 refine cz Tryz.func25 rfl (fun m => .v) fun G nx => ?_
 simp only [Tryz.ntmps25, List.length_cons, List.length_nil, Nat.reduceAdd, Nat.reduceSub]
 refine bx fun hlt => ?_
 dsimp only at hlt
 obtain ⟨hl1, hl2, hl3⟩ := kj ht
 obtain ⟨kc, kn, kw, c0, l0, hqe, hkc, hkn, _⟩ := ubg hq
 have hkcl := (List.getElem?_eq_some_iff.1 hkc).1
 have hknl := (List.getElem?_eq_some_iff.1 hkn).1
 have hc0 := (hl3 c0 (f4 hkc)).2.1
 subst hqe
 refine yS fun _ K1 => ?_
 refine yR ?_
 try dsimp only [St.put]
 refine yB rfl rfl rfl ?_
 try dsimp only [St.put]
 refine yB rfl rfl rfl ?_
 refine yA rfl rfl ?_
 refine yN ?_
 dsimp only [St.put]
 refine K1 _ ?_
 refine yS fun _ K2 => ?_
 refine yR ?_
 refine yF rfl rfl rfl rfl ?_
 refine yL rfl rfl rfl ?_
 refine yA rfl rfl ?_
 refine yN ?_
 dsimp only [St.put]
 refine K2 _ ?_
 refine yS fun _ K3 => ?_
 refine yS fun _ K4 => ?_
 refine yR ?_
 refine yA rfl rfl ?_
 refine yN ?_
 dsimp only [St.put]
 refine K4 _ ?_
 refine bg ?_
 refine cr 7 ?_
 refine zQ ?_
 refine c6 (G) zX ?_
 dsimp only
 refine c9 (X := Nat) (fun k => k ≤ kc) (fun k => kc - k) (fun k => [(5, .v (.int .i64 ((kn : Int) + ((fu t k : Nat) : Int)))), (6, .v (.int .i64 (k : Int)))]) (fun k G' => G') 0 rfl ?_ ?_ (fun _ _ h => h) ?_ ?_ ?_
 ·exact Nat.zero_le _
 ·exact zF
 ·rintro k hI
  exact zL
 ·exact fun _ _ _ _ h => .inl h
 rintro k hI
 dsimp only at hI ⊢
 refine yS fun _ K5 => ?_
 refine yS fun _ K6 => ?_
 refine yR ?_
 refine yM rfl rfl ?_
 refine yF rfl rfl rfl rfl ?_
 refine yL rfl rfl rfl ?_
 refine aa rfl (cv rfl rfl rfl) ?_
 refine yN ?_
 dsimp only [St.put]
 refine K6 _ ?_
 refine aw rfl (fun hc => ?_) (fun hc => ?_)
 ·replace hc := of_decide_eq_true hc
  obtain ⟨c, hk⟩ : ∃ x, t[k]? = some x := da (by omega)
  have hcl := hl3 c (f4 hk)
  have hst := uak ht k
  refine az ?_
  refine K5 _ ?_
  refine yS fun _ K7 => ?_
  refine bg ?_
  refine yR ?_
  refine yM rfl rfl ?_
  refine yF rfl rfl rfl rfl ?_
  refine yL rfl rfl rfl ?_
  refine yM rfl rfl ?_
  refine aa rfl (bt rfl rfl rfl rfl (br (by assumption)) (Enc.len _)) ?_
  refine yF rfl rfl rfl rfl ?_
  refine yL rfl rfl rfl ?_
  refine aa rfl (bk rfl rfl (List.length_map _)) ?_
  refine aa rfl (bv rfl rfl rfl (by omega)) ?_
  refine yA rfl rfl ?_
  refine yN ?_
  dsimp only [St.put]
  refine K7 _ ?_
  refine yR ?_
  refine yM rfl rfl ?_
  refine aa rfl (bv rfl rfl rfl (by omega)) ?_
  refine yA rfl rfl ?_
  refine yN ?_
  dsimp only [St.put]
  have e := ru hk
  rw [show (kn : Int) + ((fu t k : Nat) : Int) + (c.lines.length : Int) = (kn : Int) + ((fu t (k + 1) : Nat) : Int) by rw [e, Int.natCast_add]; omega]
  exact ⟨k + 1, by omega, by omega, ⟨⟨rfl, rfl⟩, zF, zB, zN, zX⟩⟩
 replace hc := of_decide_eq_false hc
 obtain rfl : k = kc := by omega
 refine c4 ?_
 refine K3 _ ?_
 refine yS fun _ K8 => ?_
 refine yR ?_
 refine yM rfl rfl ?_
 refine yA rfl rfl ?_
 refine yN ?_
 dsimp only [St.put]
 refine K8 _ ?_
 refine ax ?_
 refine bf rfl (by constructor) zN zS ?_
 exact vi (by unfold pz; rw [Int.toNat_natCast])
theorem ua8 (l : List PlaceD) (q : PlaceD) (hl : l.length ≤ 1000) : Pure Tryz.prog 95 [lst l, val q] (.v (.bool (decide (q ∈ l)))) := by
 refine cz Tryz.func95 rfl (fun m => .v) fun G nx => ?_
 simp only [Tryz.ntmps95, List.length_cons, List.length_nil, Nat.reduceAdd, Nat.reduceSub]
 refine bx fun hlt => ?_
 dsimp only at hlt
 refine yS fun _ K1 => ?_
 refine yR ?_
 try dsimp only [St.put]
 refine yB rfl rfl rfl ?_
 refine yA rfl rfl ?_
 refine yN ?_
 dsimp only [St.put]
 refine K1 _ ?_
 refine yS fun _ K2 => ?_
 refine yS fun _ K3 => ?_
 refine yR ?_
 refine yA rfl rfl ?_
 refine yN ?_
 dsimp only [St.put]
 refine K3 _ ?_
 refine bg ?_
 refine cr 6 ?_
 refine zQ ?_
 refine c6 (G) zX ?_
 dsimp only
 refine c9 (X := Nat) (fun k => k ≤ l.length ∧ ∀ y ∈ l.take k, y ≠ q) (fun k => l.length - k) (fun k => [(5, .v (.int .i64 (k : Int)))]) (fun k G' => G') 0 rfl ?_ ?_ (fun _ _ h => h) ?_ ?_ ?_
 ·exact ⟨Nat.zero_le _, by simp⟩
 ·exact zF
 ·rintro k hI
  exact zL
 ·exact fun _ _ _ _ h => .inl h
 rintro k hI
 dsimp only at hI ⊢
 refine yS fun _ K4 => ?_
 refine yS fun _ K5 => ?_
 refine yR ?_
 refine yM rfl rfl ?_
 refine yM rfl rfl ?_
 refine aa rfl (bk rfl rfl (List.length_map _)) ?_
 refine aa rfl (cv rfl rfl rfl) ?_
 refine yN ?_
 dsimp only [St.put]
 refine K5 _ ?_
 refine aw rfl (fun hc => ?_) (fun hc => ?_)
 ·replace hc := of_decide_eq_true hc
  obtain ⟨y, hy⟩ : ∃ y, l[k]? = some y := da (by omega)
  refine az ?_
  refine K4 _ ?_
  refine yS fun _ K6 => ?_
  refine bg ?_
  refine yS fun _ K7 => ?_
  refine gj [(0, none), (1, none), (2, none), (3, none), (4, none), (5, none)] (fun i => [].contains i) (fun i => [].contains i) (fun i => [0, 1, 2, 5].contains i) [] (by kernel_rfl) (by kernel_rfl) ?_
  refine xM rfl rfl rfl rfl rfl ?_
  refine xM rfl rfl rfl rfl rfl ?_
  try dsimp only [St.put]
  refine ae rfl rfl rfl rfl (bt rfl rfl rfl rfl (br (by assumption)) (Enc.len _)) ?_
  try dsimp only [St.put]
  refine bc rfl rfl rfl rfl (eg rfl rfl (Enc.len _)) ?_
  try dsimp only [St.put]
  refine bc rfl rfl rfl rfl (eg rfl rfl (Enc.len _)) ?_
  refine ae rfl rfl rfl rfl (kx (x := y) (y := q) rfl rfl rfl) ?_
  refine ay ?_
  dsimp only [St.put]
  refine K7 _ ?_
  refine aw rfl (fun hc => ?_) (fun hc => ?_)
  ·have he : y = q := of_decide_eq_true hc
   refine yS fun _ K8 => ?_
   refine yR ?_
   refine yA rfl rfl ?_
   refine yN ?_
   dsimp only [St.put]
   refine K8 _ ?_
   refine ax ?_
   refine bf rfl (by constructor) zN zS ?_
   exact vb (decide_eq_true (he ▸ f4 hy)).symm
  have hne : y ≠ q := of_decide_eq_false hc
  refine az ?_
  refine K6 _ ?_
  refine yR ?_
  refine yM rfl rfl ?_
  refine aa rfl (bv rfl rfl rfl (by omega)) ?_
  refine yA rfl rfl ?_
  refine yN ?_
  dsimp only [St.put]
  exact ⟨k + 1, by omega, ⟨by omega, x5 (p := fun y => y ≠ q) hy hne hI.2⟩, ⟨⟨rfl, rfl⟩, zF, zB, zN, zX⟩⟩
 replace hc := of_decide_eq_false hc
 refine c4 ?_
 refine K2 _ ?_
 refine yS fun _ K9 => ?_
 refine yR ?_
 refine yA rfl rfl ?_
 refine yN ?_
 dsimp only [St.put]
 refine K9 _ ?_
 refine ax ?_
 refine bf rfl (by constructor) zN zS ?_
 exact vb (by
  have := hI.2
  rw [gl (show l.length ≤ k by omega)] at this
  exact (decide_eq_false fun h => this q h rfl).symm)
theorem ubb (a b : List Int) (ha : a.length ≤ 1000) : Pure Tryz.prog 19 [lst a, lst b] (.v (.bool (decide (a = b)))) := by
 refine cz Tryz.func19 rfl (fun m => .v) fun G nx => ?_
 simp only [Tryz.ntmps19, List.length_cons, List.length_nil, Nat.reduceAdd, Nat.reduceSub]
 refine bx fun hlt => ?_
 dsimp only at hlt
 refine la 1 (fun hfb => ?_)
 have hb := (fit_lst.1 hfb).1
 refine yS fun _ K1 => ?_
 refine yR ?_
 refine yA rfl rfl ?_
 refine yN ?_
 dsimp only [St.put]
 refine K1 _ ?_
 refine yS fun _ K2 => ?_
 refine yS fun _ K3 => ?_
 refine yR ?_
 refine yM rfl rfl ?_
 refine aa rfl (bk rfl rfl (List.length_map _)) ?_
 refine yM rfl rfl ?_
 refine aa rfl (bk rfl rfl (List.length_map _)) ?_
 refine aa rfl (eu rfl rfl rfl) ?_
 refine yN ?_
 dsimp only [St.put]
 refine K3 _ ?_
 refine aw rfl (fun hc => ?_) (fun hc => ?_)
 ·try replace hc := of_decide_eq_true hc
  refine yS fun _ K4 => ?_
  refine yR ?_
  refine yA rfl rfl ?_
  refine yN ?_
  dsimp only [St.put]
  refine K4 _ ?_
  refine ax ?_
  refine bf rfl (by constructor) zN zS ?_
  exact vb (by
   have : a ≠ b := fun e => by subst e; simp at hc
   simp [this])
 have hl : a.length = b.length := by
  have := ia hc
  omega
 refine az ?_
 refine K2 _ ?_
 refine yS fun _ K5 => ?_
 refine yS fun _ K6 => ?_
 refine yR ?_
 refine yA rfl rfl ?_
 refine yN ?_
 dsimp only [St.put]
 refine K6 _ ?_
 refine bg ?_
 refine cr 6 ?_
 refine zQ ?_
 refine c6 (G) zX ?_
 dsimp only
 refine c9 (X := Nat) (fun k => k ≤ a.length ∧ a.take k = b.take k) (fun k => a.length - k) (fun k => [(5, .v (.int .i64 (k : Int)))]) (fun k G' => G') 0 rfl ?_ ?_ (fun _ _ h => h) ?_ ?_ ?_
 ·exact ⟨Nat.zero_le _, by simp⟩
 ·exact zF
 ·rintro k hI
  exact zL
 ·exact fun _ _ _ _ h => .inl h
 rintro k hI
 dsimp only at hI ⊢
 refine yS fun _ K7 => ?_
 refine yS fun _ K8 => ?_
 refine yR ?_
 refine yM rfl rfl ?_
 refine yM rfl rfl ?_
 refine aa rfl (bk rfl rfl (List.length_map _)) ?_
 refine aa rfl (cv rfl rfl rfl) ?_
 refine yN ?_
 dsimp only [St.put]
 refine K8 _ ?_
 refine aw rfl (fun hc => ?_) (fun hc => ?_)
 ·replace hc := of_decide_eq_true hc
  obtain ⟨x, hx⟩ : ∃ x, a[k]? = some x := da (by omega)
  obtain ⟨y, hy⟩ : ∃ y, b[k]? = some y := da (by omega)
  refine az ?_
  refine K7 _ ?_
  refine yS fun _ K9 => ?_
  refine bg ?_
  refine yS fun _ K10 => ?_
  refine gj [(0, none), (1, none), (2, none), (3, none), (4, none), (5, none), (6, none), (7, none), (8, none)] (fun i => [].contains i) (fun i => [].contains i) (fun i => [0, 1, 2, 4, 5, 6, 8].contains i) [] (by kernel_rfl) (by kernel_rfl) ?_
  refine xM rfl rfl rfl rfl rfl ?_
  refine xM rfl rfl rfl rfl rfl ?_
  try dsimp only [St.put]
  refine ae rfl rfl rfl rfl (bt rfl rfl rfl rfl (br (by assumption)) (Enc.len _)) ?_
  try dsimp only [St.put]
  refine bc rfl rfl rfl rfl (cc rfl rfl) ?_
  refine xM rfl rfl rfl rfl rfl ?_
  refine xM rfl rfl rfl rfl rfl ?_
  try dsimp only [St.put]
  refine ae rfl rfl rfl rfl (bt rfl rfl rfl rfl (br (by assumption)) (Enc.len _)) ?_
  try dsimp only [St.put]
  refine bc rfl rfl rfl rfl (cc rfl rfl) ?_
  refine ae rfl rfl rfl rfl (eu rfl rfl rfl) ?_
  refine ay ?_
  dsimp only [St.put]
  refine K10 _ ?_
  refine aw rfl (fun hc => ?_) (fun hc => ?_)
  ·have hxy := jp hc
   refine yS fun _ K11 => ?_
   refine yR ?_
   refine yA rfl rfl ?_
   refine yN ?_
   dsimp only [St.put]
   refine K11 _ ?_
   refine ax ?_
   refine bf rfl (by constructor) zN zS ?_
   exact vb (by simp [ub5 hx hy hxy])
  have hxy := ia hc
  refine az ?_
  refine K9 _ ?_
  refine yR ?_
  refine yM rfl rfl ?_
  refine aa rfl (bv rfl rfl rfl (by omega)) ?_
  refine yA rfl rfl ?_
  refine yN ?_
  dsimp only [St.put]
  exact ⟨k + 1, by omega, ⟨by omega, uaa hI.2 hx (hxy ▸ hy)⟩, ⟨⟨rfl, rfl⟩, zF, zB, zN, zX⟩⟩
 replace hc := of_decide_eq_false hc
 refine c4 ?_
 refine K5 _ ?_
 refine yS fun _ K12 => ?_
 refine yR ?_
 refine yA rfl rfl ?_
 refine yN ?_
 dsimp only [St.put]
 refine K12 _ ?_
 refine ax ?_
 refine bf rfl (by constructor) zN zS ?_
 exact vb (by
  have h1 := hI.2
  rw [gl (by omega), gl (by omega)] at h1
  simp [h1])
end Go.Proofs.YtbbdginipiljdaaGreatDoor
namespace Go.AB
open Go Go.RowKit
open Go.AB.Enc (cells)
open Go.PB (ba ai PlaceD bh bj bi bu am ah cy bq dd dj)
theorem zx {t : ai} {x : am} {i : Nat} {q : PlaceD} (h : (dm t)[i]? = some q) : fy t x ((dm t).take (i + 1)) = fy t x ((dm t).take i) + bif fl t x q then 1 else 0 := by
 unfold fy
 rw [List.take_add_one, h, Option.toList_some, List.filter_append, List.length_append]
 cases hf : fl t x q <;> simp [hf]
def ji (x : am) (b : Bool) (q : PlaceD) : Bool := bif b then decide (q ∈ x.found) && decide (q ∈ x.well) else decide (q ∈ x.found) || decide (q ∈ x.well)
/-- what is found, among the first places -/
def m4 (t : ai) (x : am) (b : Bool) (i : Nat) : List PlaceD := ((dm t).take i).filter (ji x b)
theorem udc {t : ai} {x : am} {b : Bool} {i : Nat} {q : PlaceD} (h : (dm t)[i]? = some q) : m4 t x b (i + 1) = m4 t x b i ++ bif ji x b q then [q] else [] := by
 unfold m4
 rw [List.take_add_one, h, Option.toList_some, List.filter_append]
 cases hf : ji x b q <;> simp [hf]
theorem ulp (t : ai) (x : am) (b : Bool) : m4 t x b (dm t).length = bif b then c8 t x else cp t x := by
 unfold m4
 rw [List.take_length]
 cases b <;> rfl
theorem ulo (t : ai) (x : am) (b : Bool) (i : Nat) : (m4 t x b i).length ≤ (dm t).length := by
 unfold m4
 have := List.length_filter_le (ji x b) ((dm t).take i)
 rw [List.length_take] at this
 omega
theorem bit_eq {s k : Nat} : (((s / 2 ^ k % 2 : Nat) : Int) = 1) ↔ s.testBit k = true := by
 rw [Nat.testBit_eq_decide_div_mod_eq, decide_eq_true_eq]
 omega
end Go.AB
namespace Go.Proofs.YtbbdginipiljdaaGreatDoor
set_option maxRecDepth 10000
open Go.RowKit Go.AB
open Go.AB.Enc (cells)
open Go.PB (ba ai PlaceD bh bj bi bu am ah cy bq dd dj)
theorem uik (p : ah) (j : Nat) (x : am) (ht : dp p.text = true) (hx : p.pages[j]? = some x) : Pure Tryz.prog 73 [val p, .v (.int .i64 (j : Int))] (.v (.int .i64 (dn p.text x : Int))) := by
 refine cz Tryz.func73 rfl (fun m => .v) fun G nx => ?_
 simp only [Tryz.ntmps73, List.length_cons, List.length_nil, Nat.reduceAdd, Nat.reduceSub]
 refine bx fun hlt => ?_
 dsimp only at hlt
 have hal := lf ht
 have hjl := (List.getElem?_eq_some_iff.1 hx).1
 refine yS fun _ K1 => ?_
 refine yR ?_
 try dsimp only [St.put]
 refine yB rfl rfl rfl ?_
 refine yA rfl rfl ?_
 refine yN ?_
 dsimp only [St.put]
 refine K1 _ ?_
 refine yS fun _ K2 => ?_
 refine yR ?_
 refine yA rfl rfl ?_
 refine yN ?_
 dsimp only [St.put]
 refine K2 _ ?_
 refine yS fun _ K3 => ?_
 refine yR ?_
 refine yF rfl rfl rfl rfl ?_
 try dsimp only [St.put]
 refine ci rfl (c := g9 p.text) (ja (cs := cells p) rfl rfl (show 1 ≤ 4 by decide)) ?_
 try dsimp only [St.put]
 refine af rfl (bd rfl rfl rfl (ua5 p.text ht) ?_)
 refine yA rfl rfl ?_
 refine yN ?_
 dsimp only [St.put]
 refine K3 _ ?_
 refine yS fun _ K4 => ?_
 refine yS fun _ K5 => ?_
 refine yR ?_
 refine yA rfl rfl ?_
 refine yN ?_
 dsimp only [St.put]
 refine K5 _ ?_
 refine bg ?_
 refine cr 8 ?_
 refine zQ ?_
 refine c6 (G) zX ?_
 dsimp only
 refine c9 (X := Nat) (fun i => i ≤ (dm p.text).length) (fun i => (dm p.text).length - i) (fun i => [(5, .v (.int .i64 ((fy p.text x ((dm p.text).take i) : Nat) : Int))), (7, .v (.int .i64 (i : Int)))]) (fun i G' => G') 0 rfl ?_ ?_ (fun _ _ h => h) ?_ ?_ ?_
 ·exact Nat.zero_le _
 ·exact zF
 ·rintro i hI
  exact zL
 ·exact fun _ _ _ _ h => .inl h
 rintro i hI
 dsimp only at hI ⊢
 refine yS fun _ K6 => ?_
 refine yS fun _ K7 => ?_
 refine yR ?_
 refine yM rfl rfl ?_
 refine yM rfl rfl ?_
 refine aa rfl (bk rfl rfl (List.length_map _)) ?_
 refine aa rfl (cv rfl rfl rfl) ?_
 refine yN ?_
 dsimp only [St.put]
 refine K7 _ ?_
 refine aw rfl (fun hc => ?_) (fun hc => ?_)
 ·replace hc := of_decide_eq_true hc
  obtain ⟨q, hq⟩ : ∃ q, (dm p.text)[i]? = some q := da (by omega)
  have hqp := allQ_mem.1 (List.mem_of_getElem? hq)
  have hwl : fy p.text x ((dm p.text).take i) ≤ (dm p.text).length := by
   unfold fy
   have := List.length_filter_le (fl p.text x) ((dm p.text).take i)
   rw [List.length_take] at this
   omega
  refine az ?_
  refine K6 _ ?_
  refine yS fun _ K8 => ?_
  refine bg ?_
  refine yS fun _ K9 => ?_
  refine gj [(0, none), (1, none), (2, none), (3, none), (4, none), (5, none), (7, none), (8, none), (9, none), (10, none), (11, none), (12, none), (13, none), (14, none), (15, none), (16, none), (17, none), (18, none), (6, none), (19, none)] (fun i => [19].contains i) (fun i => [6, 19].contains i) (fun i => [0, 2, 3, 4, 7, 9, 10, 11, 13, 15, 16, 17].contains i) [] (by kernel_rfl) (by kernel_rfl) ?_
  refine ae rfl rfl rfl rfl (cn rfl rfl rfl) ?_
  try dsimp only [St.put]
  refine bc rfl rfl rfl rfl (c := g9 p.text) (ja (cs := cells p) rfl rfl (show 1 ≤ 4 by decide)) ?_
  refine xM rfl rfl rfl rfl rfl ?_
  refine xM rfl rfl rfl rfl rfl ?_
  try dsimp only [St.put]
  refine ae rfl rfl rfl rfl (bt rfl rfl rfl rfl (br (by assumption)) (Enc.len _)) ?_
  try dsimp only [St.put]
  refine bc rfl rfl rfl rfl (eg rfl rfl (Enc.len _)) ?_
  refine ae rfl rfl rfl rfl (cn rfl rfl rfl) ?_
  try dsimp only [St.put]
  refine bc rfl rfl rfl rfl (cc rfl rfl) ?_
  refine xM rfl rfl rfl rfl rfl ?_
  try dsimp only [St.put]
  refine ae rfl rfl rfl rfl (bt rfl rfl rfl rfl (br (by assumption)) (Enc.len _)) ?_
  refine ae rfl rfl rfl rfl (cn rfl rfl rfl) ?_
  try dsimp only [St.put]
  refine bc rfl rfl rfl rfl (cc rfl rfl) ?_
  refine ae rfl rfl rfl rfl (cn rfl rfl rfl) ?_
  try dsimp only [St.put]
  refine bc rfl rfl rfl rfl (cc rfl rfl) ?_
  refine xM rfl rfl rfl rfl rfl ?_
  try dsimp only [St.put]
  refine ae rfl rfl rfl rfl (bt rfl rfl rfl rfl (br (by assumption)) (Enc.len _)) ?_
  refine ae rfl rfl rfl rfl (cn rfl rfl rfl) ?_
  try dsimp only [St.put]
  refine bc rfl rfl rfl rfl (cc rfl rfl) ?_
  refine ix ?_
  try dsimp only [St.put]
  refine je rfl rfl rfl (bd rfl rfl rfl (xf p.text q ht hqp) ⟨zD, ?_⟩)
  try dsimp only [St.put]
  refine gw rfl rfl rfl rfl (bd rfl rfl rfl (oy _ _ _) ?_)
  refine iw ?_
  dsimp only [St.put]
  refine K9 _ ?_
  refine aw rfl (fun hc => ?_) (fun hc => ?_)
  ·have hb : fl p.text x q = true := hc
   refine yR ?_
   refine yM rfl rfl ?_
   refine aa rfl (bv rfl rfl rfl (by omega)) ?_
   refine yA rfl rfl ?_
   refine yN ?_
   dsimp only [St.put]
   refine K8 _ ?_
   refine yR ?_
   refine yM rfl rfl ?_
   refine aa rfl (bv rfl rfl rfl (by omega)) ?_
   refine yA rfl rfl ?_
   refine yN ?_
   dsimp only [St.put]
   have e := zx (x := x) hq
   first
   | (have z : fl p.text x q = true := hb
      rw [z, cond_true] at e
      rw [show ((fy p.text x ((dm p.text).take i) : Nat) : Int) + 1 = ((fy p.text x ((dm p.text).take (i + 1)) : Nat) : Int) by rw [e]; rfl]
      exact ⟨i + 1, by omega, by omega, ⟨⟨rfl, rfl⟩, zF, zB, zN, zX⟩⟩)
   | (have z : fl p.text x q = false := hb
      rw [show fy p.text x ((dm p.text).take i) = fy p.text x ((dm p.text).take (i + 1)) by rw [e, z]; rfl]
      exact ⟨i + 1, by omega, by omega, ⟨⟨rfl, rfl⟩, zF, zB, zN, zX⟩⟩)
  have hb : fl p.text x q = false := hc
  refine az ?_
  refine K8 _ ?_
  refine yR ?_
  refine yM rfl rfl ?_
  refine aa rfl (bv rfl rfl rfl (by omega)) ?_
  refine yA rfl rfl ?_
  refine yN ?_
  dsimp only [St.put]
  have e := zx (x := x) hq
  first
  | (have z : fl p.text x q = true := hb
     rw [z, cond_true] at e
     rw [show ((fy p.text x ((dm p.text).take i) : Nat) : Int) + 1 = ((fy p.text x ((dm p.text).take (i + 1)) : Nat) : Int) by rw [e]; rfl]
     exact ⟨i + 1, by omega, by omega, ⟨⟨rfl, rfl⟩, zF, zB, zN, zX⟩⟩)
  | (have z : fl p.text x q = false := hb
     rw [show fy p.text x ((dm p.text).take i) = fy p.text x ((dm p.text).take (i + 1)) by rw [e, z]; rfl]
     exact ⟨i + 1, by omega, by omega, ⟨⟨rfl, rfl⟩, zF, zB, zN, zX⟩⟩)
 replace hc := of_decide_eq_false hc
 obtain rfl : i = (dm p.text).length := by omega
 refine c4 ?_
 refine K4 _ ?_
 refine yS fun _ K10 => ?_
 refine yR ?_
 refine yM rfl rfl ?_
 refine yA rfl rfl ?_
 refine yN ?_
 dsimp only [St.put]
 refine K10 _ ?_
 refine ax ?_
 refine bf rfl (by constructor) zN zS ?_
 exact vi (by rw [List.take_length]; rfl)
theorem uim (p : ah) (j : Nat) (x : am) (b : Bool) (ht : dp p.text = true) (hx : p.pages[j]? = some x) (hf : x.found.length ≤ 1000) (hw : x.well.length ≤ 1000) : Pure Tryz.prog 72 [val p, .v (.int .i64 (j : Int)), .v (.bool b)] (lst (bif b then c8 p.text x else cp p.text x)) := by
 refine cz Tryz.func72 rfl (fun m => (ca _ _)) fun G nx => ?_
 simp only [Tryz.ntmps72, List.length_cons, List.length_nil, Nat.reduceAdd, Nat.reduceSub]
 refine bx fun hlt => ?_
 dsimp only at hlt
 have hal := lf ht
 have hjl := (List.getElem?_eq_some_iff.1 hx).1
 refine yS fun _ K1 => ?_
 refine yR ?_
 try dsimp only [St.put]
 refine yB rfl rfl rfl ?_
 refine yA rfl rfl ?_
 refine yN ?_
 dsimp only [St.put]
 refine K1 _ ?_
 refine yS fun _ K2 => ?_
 refine yR ?_
 refine yA rfl rfl ?_
 refine yN ?_
 dsimp only [St.put]
 refine K2 _ ?_
 refine m8 7 61 3 rfl (by decide) ?_
 dsimp only [List.set_cons_zero, List.set_cons_succ]
 refine yS fun _ K3 => ?_
 refine yR ?_
 refine yF rfl rfl rfl rfl ?_
 refine yL rfl rfl rfl ?_
 refine yM rfl rfl ?_
 refine aa rfl (bt rfl rfl rfl rfl (br (by assumption)) (Enc.len _)) ?_
 refine yE rfl rfl rfl ?_
 try dsimp only [St.put]
 refine af rfl (d8 rfl ?_)
 try dsimp only [St.put]
 refine af rfl (dc rfl rfl rfl zG rfl rfl (by rfl) ?_)
 refine yN ?_
 dsimp only [St.put]
 refine K3 _ ?_
 refine f7 (i := 8) rfl zG zC ?_
 dsimp only
 refine yS fun _ K4 => ?_
 refine yR ?_
 refine yF rfl rfl rfl rfl ?_
 try dsimp only [St.put]
 refine ci rfl (c := g9 p.text) (ja (cs := cells p) rfl rfl (show 1 ≤ 4 by decide)) ?_
 try dsimp only [St.put]
 refine af rfl (bd rfl rfl rfl (ua5 p.text ht) ?_)
 refine yA rfl rfl ?_
 refine yN ?_
 dsimp only [St.put]
 refine K4 _ ?_
 refine yS fun _ K5 => ?_
 refine yS fun _ K6 => ?_
 refine yR ?_
 refine yA rfl rfl ?_
 refine yN ?_
 dsimp only [St.put]
 refine K6 _ ?_
 refine bg ?_
 refine cr 13 ?_
 refine zQ ?_
 refine c6 ((aq G nx (.tip (m4 p.text x b 0).length 61 3))) zX ?_
 dsimp only
 refine c9 (X := Nat) (fun i => i ≤ (dm p.text).length) (fun i => (dm p.text).length - i) (fun i => [(7, .list ((m4 p.text x b i).map cells) (.tip nx)), (10, .v (.int .i64 (i : Int))), (11, .any), (12, .any)]) (fun i G' => (aq G nx (.tip (m4 p.text x b i).length 61 3))) 0 rfl ?_ ?_ ?_ ?_ ?_ ?_
 ·exact Nat.zero_le _
 ·exact zF
 ·exact zX
 ·rintro i hI
  exact zL
 ·rintro i hI
  exact zH
 rintro i hI
 dsimp only at hI ⊢
 refine yS fun _ K7 => ?_
 refine yS fun _ K8 => ?_
 refine yR ?_
 refine yM rfl rfl ?_
 refine yM rfl rfl ?_
 refine aa rfl (bk rfl rfl (List.length_map _)) ?_
 refine aa rfl (cv rfl rfl rfl) ?_
 refine yN ?_
 dsimp only [St.put]
 refine K8 _ ?_
 refine aw rfl (fun hc => ?_) (fun hc => ?_)
 ·replace hc := of_decide_eq_true hc
  obtain ⟨q, hq⟩ : ∃ q, (dm p.text)[i]? = some q := da (by omega)
  have hfl := ulo p.text x b i
  refine az ?_
  refine K7 _ ?_
  refine yS fun _ K9 => ?_
  refine bg ?_
  refine yS fun _ K10 => ?_
  refine gj [(0, none), (1, none), (2, none), (3, none), (4, none), (5, none), (7, none), (8, none), (9, none), (10, none), (11, none), (12, none), (6, none), (13, none), (14, none), (15, none)] (fun i => [13].contains i) (fun i => [6, 13].contains i) (fun i => [0, 2, 3, 4, 7, 9, 10, 11, 14, 15].contains i) [] (by kernel_rfl) (by kernel_rfl) ?_
  refine ae rfl rfl rfl rfl (cn rfl rfl rfl) ?_
  try dsimp only [St.put]
  refine bc rfl rfl rfl rfl (cc rfl rfl) ?_
  refine xM rfl rfl rfl rfl rfl ?_
  refine xM rfl rfl rfl rfl rfl ?_
  try dsimp only [St.put]
  refine ae rfl rfl rfl rfl (bt rfl rfl rfl rfl (br (by assumption)) (Enc.len _)) ?_
  try dsimp only [St.put]
  refine bc rfl rfl rfl rfl (eg rfl rfl (Enc.len _)) ?_
  refine ae rfl rfl rfl rfl (cn rfl rfl rfl) ?_
  try dsimp only [St.put]
  refine bc rfl rfl rfl rfl (cc rfl rfl) ?_
  refine xM rfl rfl rfl rfl rfl ?_
  refine xM rfl rfl rfl rfl rfl ?_
  try dsimp only [St.put]
  refine ae rfl rfl rfl rfl (bt rfl rfl rfl rfl (br (by assumption)) (Enc.len _)) ?_
  try dsimp only [St.put]
  refine bc rfl rfl rfl rfl (eg rfl rfl (Enc.len _)) ?_
  refine ix ?_
  try dsimp only [St.put]
  refine je rfl rfl rfl (bd rfl rfl rfl (ua8 x.found q hf) ⟨zD, ?_⟩)
  try dsimp only [St.put]
  refine gw rfl rfl rfl rfl (bd rfl rfl rfl (ua8 x.well q hw) ?_)
  refine eb rfl rfl rfl rfl (fj rfl (by constructor)) ?_
  refine eb rfl rfl rfl rfl (fj rfl (by constructor)) ?_
  refine iw ?_
  dsimp only [St.put]
  refine K10 _ ?_
  refine cr 13 ?_
  refine zQ ?_
  refine j4 (X := Bool) (fun d => ji x b q = d) (fun d => [(54, .v (.bool d))]) (fun d G' => G') rfl ?_ (fun _ _ _ _ h => .inl h) ?_ ?_
  ·rintro d hI
   exact zL
  ·refine yR ?_
   refine yM rfl rfl ?_
   refine yM rfl rfl ?_
   refine eo (fun hs => ?_) (fun hs => ?_)
   ·have s1 := hs
    refine yM rfl rfl ?_
    refine aa rfl (b9 rfl rfl (by constructor)) ?_
    refine eo (fun hs => ?_) (fun hs => ?_)
    ·have s3 := hs
     refine yM rfl rfl ?_
     refine yK rfl ?_
     refine yK rfl ?_
     refine yK rfl ?_
     refine yK rfl ?_
     refine yK rfl ?_
     refine yK rfl ?_
     refine yK rfl ?_
     refine yK rfl ?_
     refine aa rfl (b9 rfl rfl (by constructor)) ?_
     refine yN ?_
     dsimp only [St.put]
     refine ⟨_, ?_, ⟨⟨rfl, rfl⟩, zF, zB, zN, zX⟩⟩
     cases b <;> simp_all [ji]
    have s3 := hs
    refine yM rfl rfl ?_
    refine yM rfl rfl ?_
    refine aa rfl (dq rfl rfl) ?_
    refine eo (fun hs => ?_) (fun hs => ?_)
    ·have s6 := hs
     refine yM rfl rfl ?_
     refine yM rfl rfl ?_
     refine eo (fun hs => ?_) (fun hs => ?_)
     ·have s8 := hs
      refine yM rfl rfl ?_
      refine yK rfl ?_
      refine aa rfl (b9 rfl rfl (by constructor)) ?_
      refine aa rfl (b9 rfl rfl (by constructor)) ?_
      refine aa rfl (co rfl rfl (by constructor)) ?_
      refine yN ?_
      dsimp only [St.put]
      refine ⟨_, ?_, ⟨⟨rfl, rfl⟩, zF, zB, zN, zX⟩⟩
      cases b <;> simp_all [ji]
     have s8 := hs
     refine yM rfl rfl ?_
     refine yM rfl rfl ?_
     refine aa rfl (co rfl rfl (by constructor)) ?_
     refine aa rfl (b9 rfl rfl (by constructor)) ?_
     refine aa rfl (co rfl rfl (by constructor)) ?_
     refine yN ?_
     dsimp only [St.put]
     refine ⟨_, ?_, ⟨⟨rfl, rfl⟩, zF, zB, zN, zX⟩⟩
     cases b <;> simp_all [ji]
    have s6 := hs
    refine yM rfl rfl ?_
    refine yK rfl ?_
    refine yK rfl ?_
    refine yK rfl ?_
    refine yK rfl ?_
    refine aa rfl (co rfl rfl (by constructor)) ?_
    refine aa rfl (co rfl rfl (by constructor)) ?_
    refine yN ?_
    dsimp only [St.put]
    refine ⟨_, ?_, ⟨⟨rfl, rfl⟩, zF, zB, zN, zX⟩⟩
    cases b <;> simp_all [ji]
   have s1 := hs
   refine yK rfl ?_
   refine aa rfl (co rfl rfl (by constructor)) ?_
   refine yM rfl rfl ?_
   refine yM rfl rfl ?_
   refine aa rfl (dq rfl rfl) ?_
   refine eo (fun hs => ?_) (fun hs => ?_)
   ·have s6 := hs
    refine yM rfl rfl ?_
    refine yM rfl rfl ?_
    refine eo (fun hs => ?_) (fun hs => ?_)
    ·have s8 := hs
     refine yM rfl rfl ?_
     refine yK rfl ?_
     refine aa rfl (b9 rfl rfl (by constructor)) ?_
     refine aa rfl (b9 rfl rfl (by constructor)) ?_
     refine aa rfl (co rfl rfl (by constructor)) ?_
     refine yN ?_
     dsimp only [St.put]
     refine ⟨_, ?_, ⟨⟨rfl, rfl⟩, zF, zB, zN, zX⟩⟩
     cases b <;> simp_all [ji]
    have s8 := hs
    refine yM rfl rfl ?_
    refine yM rfl rfl ?_
    refine aa rfl (co rfl rfl (by constructor)) ?_
    refine aa rfl (b9 rfl rfl (by constructor)) ?_
    refine aa rfl (co rfl rfl (by constructor)) ?_
    refine yN ?_
    dsimp only [St.put]
    refine ⟨_, ?_, ⟨⟨rfl, rfl⟩, zF, zB, zN, zX⟩⟩
    cases b <;> simp_all [ji]
   have s6 := hs
   refine yM rfl rfl ?_
   refine yK rfl ?_
   refine yK rfl ?_
   refine yK rfl ?_
   refine yK rfl ?_
   refine aa rfl (co rfl rfl (by constructor)) ?_
   refine aa rfl (co rfl rfl (by constructor)) ?_
   refine yN ?_
   dsimp only [St.put]
   refine ⟨_, ?_, ⟨⟨rfl, rfl⟩, zF, zB, zN, zX⟩⟩
   cases b <;> simp_all [ji]
  rintro d hst
  dsimp only at hst ⊢
  refine aw rfl (fun hc => ?_) (fun hc => ?_)
  ·have hb : ji x b q = true := hst.trans hc
   refine yR ?_
   refine yM rfl rfl ?_
   refine yM rfl rfl ?_
   refine yM rfl rfl ?_
   refine aa rfl (bt rfl rfl rfl rfl (br (by assumption)) (Enc.len _)) ?_
   refine yE rfl rfl rfl ?_
   try dsimp only [St.put]
   refine af rfl (cb rfl rfl rfl (by decide) (by decide) zR (by decide) ?_)
   try dsimp only [St.put]
   refine af rfl (cg ([q]) rfl rfl zG zE rfl rfl zA ?_ zA)
   refine yA rfl rfl ?_
   refine yN ?_
   dsimp only [St.put]
   refine K9 _ ?_
   refine yR ?_
   refine yM rfl rfl ?_
   refine aa rfl (bv rfl rfl rfl (by omega)) ?_
   refine yA rfl rfl ?_
   refine yN ?_
   dsimp only [St.put]
   have e := udc (x := x) (b := b) hq
   first
   | (have z : ji x b q = true := hb
      rw [z, cond_true] at e
      rw [← e]
      exact ⟨i + 1, by omega, by omega, ⟨⟨rfl, rfl⟩, zF, zB, zN, zX⟩⟩)
   | (have z : ji x b q = false := hb
      rw [z, cond_false, List.append_nil] at e
      rw [← e]
      exact ⟨i + 1, by omega, by omega, ⟨⟨rfl, rfl⟩, zF, zB, zN, zX⟩⟩)
  have hb : ji x b q = false := hst.trans hc
  refine az ?_
  refine K9 _ ?_
  refine yR ?_
  refine yM rfl rfl ?_
  refine aa rfl (bv rfl rfl rfl (by omega)) ?_
  refine yA rfl rfl ?_
  refine yN ?_
  dsimp only [St.put]
  have e := udc (x := x) (b := b) hq
  first
  | (have z : ji x b q = true := hb
     rw [z, cond_true] at e
     rw [← e]
     exact ⟨i + 1, by omega, by omega, ⟨⟨rfl, rfl⟩, zF, zB, zN, zX⟩⟩)
  | (have z : ji x b q = false := hb
     rw [z, cond_false, List.append_nil] at e
     rw [← e]
     exact ⟨i + 1, by omega, by omega, ⟨⟨rfl, rfl⟩, zF, zB, zN, zX⟩⟩)
 replace hc := of_decide_eq_false hc
 obtain rfl : i = (dm p.text).length := by omega
 have hfin := ulp p.text x b
 refine c4 ?_
 refine K5 _ ?_
 refine yS fun _ K12 => ?_
 refine yR ?_
 refine yM rfl rfl ?_
 refine yA rfl rfl ?_
 refine yN ?_
 dsimp only [St.put]
 refine K12 _ ?_
 refine ax ?_
 refine pf rfl (ec (by constructor)) zN zS ?_
 rw [← hfin]
 exact zW
end Go.Proofs.YtbbdginipiljdaaGreatDoor
namespace Go.AB
open Go Go.RowKit
open Go.AB.Enc (cells)
open Go.PB (ba ai PlaceD bh bj bi bu am ah cy bq dd dj)
theorem ud {l : List am} {g : am → Nat} (k : Nat) : ct (l.take k) g ≤ ct l g := by
 have h : ct l g = ct (l.take k) g + ct (l.drop k) g := by
  unfold ct
  rw [← List.sum_append, ← List.map_append, List.take_append_drop]
 omega
theorem uce {p : ah} {b : Bool} {i : Nat} {r : bu} (h : (du p b)[i]? = some r) : ky p b i = r.miss := by unfold ky; rw [h]
theorem uly (R : Nat → Int) (S : Nat → Bool) (k : Nat) : fR R S (k + 1) = fR R S k + bif S k then R k else 0 := rfl
theorem udt (p : ah) (C : Nat → Int) (S : Nat → Bool) (k : Nat) : fC p C S (k + 1) = fC p C S k + bif (bp p).hit S k then 0 else C k := rfl
end Go.AB
namespace Go.Proofs.YtbbdginipiljdaaGreatDoor
set_option maxRecDepth 10000
open Go.RowKit Go.AB
open Go.AB.Enc (cells)
open Go.PB (ba ai PlaceD bh bj bi bu am ah cy bq dd dj)
theorem ua7 (p : ah) (j : Nat) (x : am) (b : Bool) (i : Int) (hx : p.pages[j]? = some x) : Pure Tryz.prog 74 [val p, .v (.int .i64 (j : Int)), .v (.bool b), .v (.int .i64 i)] (.v (.bool (decide (d9 b x = i)))) := by
 refine cz Tryz.func74 rfl (fun m => .v) fun G nx => ?_
 simp only [Tryz.ntmps74, List.length_cons, List.length_nil, Nat.reduceAdd, Nat.reduceSub]
 refine bx fun hlt => ?_
 dsimp only at hlt
 have hjl := (List.getElem?_eq_some_iff.1 hx).1
 refine yS fun _ K1 => ?_
 refine yR ?_
 try dsimp only [St.put]
 refine yB rfl rfl rfl ?_
 refine yA rfl rfl ?_
 refine yN ?_
 dsimp only [St.put]
 refine K1 _ ?_
 refine yS fun _ K2 => ?_
 refine yS fun _ K3 => ?_
 refine yR ?_
 refine yM rfl rfl ?_
 refine yN ?_
 dsimp only [St.put]
 refine K3 _ ?_
 refine aw rfl (fun hc => ?_) (fun hc => ?_)
 ·have hb : b = true := hc
  refine yS fun _ K4 => ?_
  refine yR ?_
  refine yF rfl rfl rfl rfl ?_
  refine yL rfl rfl rfl ?_
  refine yM rfl rfl ?_
  refine aa rfl (bt rfl rfl rfl rfl (br (by assumption)) (Enc.len _)) ?_
  refine yF rfl rfl rfl rfl ?_
  refine yL rfl rfl rfl ?_
  refine yM rfl rfl ?_
  refine aa rfl (fh rfl rfl rfl) ?_
  refine yA rfl rfl ?_
  refine yN ?_
  dsimp only [St.put]
  refine K4 _ ?_
  refine ax ?_
  refine bf rfl (by constructor) zN zS ?_
  exact vb (by rw [hb]; rfl)
 have hb : b = false := hc
 refine az ?_
 refine K2 _ ?_
 refine yS fun _ K5 => ?_
 refine yR ?_
 refine yF rfl rfl rfl rfl ?_
 refine yL rfl rfl rfl ?_
 refine yM rfl rfl ?_
 refine aa rfl (bt rfl rfl rfl rfl (br (by assumption)) (Enc.len _)) ?_
 refine yF rfl rfl rfl rfl ?_
 refine yL rfl rfl rfl ?_
 refine yM rfl rfl ?_
 refine aa rfl (fh rfl rfl rfl) ?_
 refine yA rfl rfl ?_
 refine yN ?_
 dsimp only [St.put]
 refine K5 _ ?_
 refine ax ?_
 refine bf rfl (by constructor) zN zS ?_
 exact vb (by rw [hb]; rfl)
theorem ua9 (p : ah) (j : Nat) (x : am) (ht : dp p.text = true) (hx : p.pages[j]? = some x) (hf : x.found.length ≤ 1000) (hw : x.well.length ≤ 1000) : Pure Tryz.prog 72 [val p, .v (.int .i64 (j : Int)), .v (.bool false)] (lst (cp p.text x)) := uim p j x false ht hx hf hw
set_option maxHeartbeats 1000000 in
theorem uin (p : ah) (b : Bool) (i : Nat) (h : ei p) (hi : i < (du p b).length) : Pure Tryz.prog 75 [val p, .v (.bool b), .v (.int .i64 (i : Int))] (.tup [.v (.int .i64 (jt p b i)), .v (.int .i64 (k7 p b i))]) := by
 refine cz Tryz.func75 rfl (fun m => .tup (cm .v (cm .v dh))) fun G nx => ?_
 simp only [Tryz.ntmps75, List.length_cons, List.length_nil, Nat.reduceAdd, Nat.reduceSub]
 refine bx fun hlt => ?_
 dsimp only at hlt
 have hown := xm h b (i : Int)
 have hrd := xe h b (i : Int)
 have hal := lf h.text
 have hnp := h.np
 have hmb := xz h b i
 obtain ⟨r, hr⟩ : ∃ r, (du p b)[i]? = some r := da hi
 have hmr := uce hr
 refine yS fun _ K1 => ?_
 refine yR ?_
 try dsimp only [St.put]
 refine yB rfl rfl rfl ?_
 refine yA rfl rfl ?_
 refine yA rfl rfl ?_
 refine yN ?_
 dsimp only [St.put]
 refine K1 _ ?_
 refine yS fun _ K2 => ?_
 refine yR ?_
 refine yA rfl rfl ?_
 refine yA rfl rfl ?_
 refine yN ?_
 dsimp only [St.put]
 refine K2 _ ?_
 refine yS fun _ K3 => ?_
 refine yS fun _ K4 => ?_
 refine yR ?_
 refine yA rfl rfl ?_
 refine yN ?_
 dsimp only [St.put]
 refine K4 _ ?_
 refine bg ?_
 refine cr 13 ?_
 refine zQ ?_
 refine c6 (G) zX ?_
 dsimp only
 refine c9 (X := Nat) (fun k => k ≤ p.pages.length) (fun k => p.pages.length - k) (fun k => [(8, .v (.int .i64 ((ct (p.pages.take k) (dg b (i : Int)) : Nat) : Int))), (9, .v (.int .i64 ((ct (p.pages.take k) (dv p.text b (i : Int)) : Nat) : Int))), (10, .v (.int .i64 (k : Int)))]) (fun k G' => G') 0 rfl ?_ ?_ (fun _ _ h => h) ?_ ?_ ?_
 ·exact Nat.zero_le _
 ·exact zF
 ·rintro k hI
  exact zL
 ·exact fun _ _ _ _ h => .inl h
 rintro k hI
 dsimp only at hI ⊢
 refine yS fun _ K5 => ?_
 refine yS fun _ K6 => ?_
 refine yR ?_
 refine yM rfl rfl ?_
 refine yF rfl rfl rfl rfl ?_
 refine yL rfl rfl rfl ?_
 refine aa rfl (bk rfl rfl (List.length_map _)) ?_
 refine aa rfl (cv rfl rfl rfl) ?_
 refine yN ?_
 dsimp only [St.put]
 refine K6 _ ?_
 refine aw rfl (fun hc => ?_) (fun hc => ?_)
 ·replace hc := of_decide_eq_true hc
  obtain ⟨x, hx⟩ : ∃ x, p.pages[k]? = some x := da (by omega)
  have hp := pageB_true.1 (h.page k x hx)
  have hfl := ll hp.found
  have hwl := ll hp.well
  have hgl := ra p.text x
  have ht1 := ud (l := p.pages) (g := dg b (i : Int)) k
  have ht2 := ud (l := p.pages) (g := dv p.text b (i : Int)) k
  refine az ?_
  refine K5 _ ?_
  refine yS fun _ K7 => ?_
  refine bg ?_
  refine yS fun _ K8 => ?_
  refine yS fun _ K9 => ?_
  refine yR ?_
  refine yE rfl rfl rfl ?_
  refine yM rfl rfl ?_
  refine yM rfl rfl ?_
  refine yM rfl rfl ?_
  try dsimp only [St.put]
  refine af rfl (bd rfl rfl rfl (ua7 p k x b (i : Int) hx) ?_)
  refine aa rfl (dq rfl rfl) ?_
  refine yN ?_
  dsimp only [St.put]
  refine K9 _ ?_
  refine aw rfl (fun hc => ?_) (fun hc => ?_)
  ·have hno : ¬ d9 b x = (i : Int) := by simpa using hc
   refine c4 ?_
   refine K7 _ ?_
   refine yR ?_
   refine yM rfl rfl ?_
   refine aa rfl (bv rfl rfl rfl (by omega)) ?_
   refine yA rfl rfl ?_
   refine yN ?_
   dsimp only [St.put]
   have e1 := lw (g := dg b (i : Int)) hx
   have e2 := lw (g := dv p.text b (i : Int)) hx
   first
   | (have z : ¬ d9 b x = (i : Int) := hno
      rw [show ct (p.pages.take k) (dg b (i : Int)) = ct (p.pages.take (k + 1)) (dg b (i : Int)) by rw [e1]; unfold dg; rw [decide_eq_false z]; rfl, show ct (p.pages.take k) (dv p.text b (i : Int)) = ct (p.pages.take (k + 1)) (dv p.text b (i : Int)) by rw [e2]; unfold dv; rw [decide_eq_false z]; rfl]
      exact ⟨k + 1, by omega, by omega, ⟨⟨rfl, rfl⟩, zF, zB, zN, zX⟩⟩)
   | (have z : b = true := hb
      rw [show ((ct (p.pages.take k) (dg b (i : Int)) : Nat) : Int) + (x.well.length : Int) = ((ct (p.pages.take (k + 1)) (dg b (i : Int)) : Nat) : Int) by rw [e1]; unfold dg; rw [decide_eq_true hyes, cond_true, z]; rfl, show ((ct (p.pages.take k) (dv p.text b (i : Int)) : Nat) : Int) + ((cp p.text x).length : Int) = ((ct (p.pages.take (k + 1)) (dv p.text b (i : Int)) : Nat) : Int) by rw [e2]; unfold dv; rw [decide_eq_true hyes, cond_true]; rfl]
      exact ⟨k + 1, by omega, by omega, ⟨⟨rfl, rfl⟩, zF, zB, zN, zX⟩⟩)
   | (have z : b = false := hb
      rw [show ((ct (p.pages.take k) (dg b (i : Int)) : Nat) : Int) + (x.found.length : Int) = ((ct (p.pages.take (k + 1)) (dg b (i : Int)) : Nat) : Int) by rw [e1]; unfold dg; rw [decide_eq_true hyes, cond_true, z]; rfl, show ((ct (p.pages.take k) (dv p.text b (i : Int)) : Nat) : Int) + ((cp p.text x).length : Int) = ((ct (p.pages.take (k + 1)) (dv p.text b (i : Int)) : Nat) : Int) by rw [e2]; unfold dv; rw [decide_eq_true hyes, cond_true]; rfl]
      exact ⟨k + 1, by omega, by omega, ⟨⟨rfl, rfl⟩, zF, zB, zN, zX⟩⟩)
  have hyes : d9 b x = (i : Int) := by simpa using hc
  refine az ?_
  refine K8 _ ?_
  refine yS fun _ K10 => ?_
  refine yR ?_
  refine yM rfl rfl ?_
  refine yE rfl rfl rfl ?_
  refine yM rfl rfl ?_
  try dsimp only [St.put]
  refine af rfl (bd rfl rfl rfl (ua9 p k x h.text hx (by omega) (by omega)) ?_)
  refine aa rfl (bk rfl rfl (List.length_map _)) ?_
  refine aa rfl (bv rfl rfl rfl (by omega)) ?_
  refine yA rfl rfl ?_
  refine yN ?_
  dsimp only [St.put]
  refine K10 _ ?_
  refine yS fun _ K11 => ?_
  refine yR ?_
  refine yM rfl rfl ?_
  refine yN ?_
  dsimp only [St.put]
  refine K11 _ ?_
  refine aw rfl (fun hc => ?_) (fun hc => ?_)
  ·have hb : b = true := hc
   refine yR ?_
   refine yM rfl rfl ?_
   refine yF rfl rfl rfl rfl ?_
   refine yL rfl rfl rfl ?_
   refine yM rfl rfl ?_
   refine aa rfl (bt rfl rfl rfl rfl (br (by assumption)) (Enc.len _)) ?_
   refine yF rfl rfl rfl rfl ?_
   refine yL rfl rfl rfl ?_
   refine aa rfl (bk rfl rfl (List.length_map _)) ?_
   refine aa rfl (bv rfl rfl rfl (by omega)) ?_
   refine yA rfl rfl ?_
   refine yN ?_
   dsimp only [St.put]
   refine K7 _ ?_
   refine yR ?_
   refine yM rfl rfl ?_
   refine aa rfl (bv rfl rfl rfl (by omega)) ?_
   refine yA rfl rfl ?_
   refine yN ?_
   dsimp only [St.put]
   have e1 := lw (g := dg b (i : Int)) hx
   have e2 := lw (g := dv p.text b (i : Int)) hx
   first
   | (have z : ¬ d9 b x = (i : Int) := hno
      rw [show ct (p.pages.take k) (dg b (i : Int)) = ct (p.pages.take (k + 1)) (dg b (i : Int)) by rw [e1]; unfold dg; rw [decide_eq_false z]; rfl, show ct (p.pages.take k) (dv p.text b (i : Int)) = ct (p.pages.take (k + 1)) (dv p.text b (i : Int)) by rw [e2]; unfold dv; rw [decide_eq_false z]; rfl]
      exact ⟨k + 1, by omega, by omega, ⟨⟨rfl, rfl⟩, zF, zB, zN, zX⟩⟩)
   | (have z : b = true := hb
      rw [show ((ct (p.pages.take k) (dg b (i : Int)) : Nat) : Int) + (x.well.length : Int) = ((ct (p.pages.take (k + 1)) (dg b (i : Int)) : Nat) : Int) by rw [e1]; unfold dg; rw [decide_eq_true hyes, cond_true, z]; rfl, show ((ct (p.pages.take k) (dv p.text b (i : Int)) : Nat) : Int) + ((cp p.text x).length : Int) = ((ct (p.pages.take (k + 1)) (dv p.text b (i : Int)) : Nat) : Int) by rw [e2]; unfold dv; rw [decide_eq_true hyes, cond_true]; rfl]
      exact ⟨k + 1, by omega, by omega, ⟨⟨rfl, rfl⟩, zF, zB, zN, zX⟩⟩)
   | (have z : b = false := hb
      rw [show ((ct (p.pages.take k) (dg b (i : Int)) : Nat) : Int) + (x.found.length : Int) = ((ct (p.pages.take (k + 1)) (dg b (i : Int)) : Nat) : Int) by rw [e1]; unfold dg; rw [decide_eq_true hyes, cond_true, z]; rfl, show ((ct (p.pages.take k) (dv p.text b (i : Int)) : Nat) : Int) + ((cp p.text x).length : Int) = ((ct (p.pages.take (k + 1)) (dv p.text b (i : Int)) : Nat) : Int) by rw [e2]; unfold dv; rw [decide_eq_true hyes, cond_true]; rfl]
      exact ⟨k + 1, by omega, by omega, ⟨⟨rfl, rfl⟩, zF, zB, zN, zX⟩⟩)
  have hb : b = false := hc
  refine yR ?_
  refine yM rfl rfl ?_
  refine yF rfl rfl rfl rfl ?_
  refine yL rfl rfl rfl ?_
  refine yM rfl rfl ?_
  refine aa rfl (bt rfl rfl rfl rfl (br (by assumption)) (Enc.len _)) ?_
  refine yF rfl rfl rfl rfl ?_
  refine yL rfl rfl rfl ?_
  refine aa rfl (bk rfl rfl (List.length_map _)) ?_
  refine aa rfl (bv rfl rfl rfl (by omega)) ?_
  refine yA rfl rfl ?_
  refine yN ?_
  dsimp only [St.put]
  refine K7 _ ?_
  refine yR ?_
  refine yM rfl rfl ?_
  refine aa rfl (bv rfl rfl rfl (by omega)) ?_
  refine yA rfl rfl ?_
  refine yN ?_
  dsimp only [St.put]
  have e1 := lw (g := dg b (i : Int)) hx
  have e2 := lw (g := dv p.text b (i : Int)) hx
  first
  | (have z : ¬ d9 b x = (i : Int) := hno
     rw [show ct (p.pages.take k) (dg b (i : Int)) = ct (p.pages.take (k + 1)) (dg b (i : Int)) by rw [e1]; unfold dg; rw [decide_eq_false z]; rfl, show ct (p.pages.take k) (dv p.text b (i : Int)) = ct (p.pages.take (k + 1)) (dv p.text b (i : Int)) by rw [e2]; unfold dv; rw [decide_eq_false z]; rfl]
     exact ⟨k + 1, by omega, by omega, ⟨⟨rfl, rfl⟩, zF, zB, zN, zX⟩⟩)
  | (have z : b = true := hb
     rw [show ((ct (p.pages.take k) (dg b (i : Int)) : Nat) : Int) + (x.well.length : Int) = ((ct (p.pages.take (k + 1)) (dg b (i : Int)) : Nat) : Int) by rw [e1]; unfold dg; rw [decide_eq_true hyes, cond_true, z]; rfl, show ((ct (p.pages.take k) (dv p.text b (i : Int)) : Nat) : Int) + ((cp p.text x).length : Int) = ((ct (p.pages.take (k + 1)) (dv p.text b (i : Int)) : Nat) : Int) by rw [e2]; unfold dv; rw [decide_eq_true hyes, cond_true]; rfl]
     exact ⟨k + 1, by omega, by omega, ⟨⟨rfl, rfl⟩, zF, zB, zN, zX⟩⟩)
  | (have z : b = false := hb
     rw [show ((ct (p.pages.take k) (dg b (i : Int)) : Nat) : Int) + (x.found.length : Int) = ((ct (p.pages.take (k + 1)) (dg b (i : Int)) : Nat) : Int) by rw [e1]; unfold dg; rw [decide_eq_true hyes, cond_true, z]; rfl, show ((ct (p.pages.take k) (dv p.text b (i : Int)) : Nat) : Int) + ((cp p.text x).length : Int) = ((ct (p.pages.take (k + 1)) (dv p.text b (i : Int)) : Nat) : Int) by rw [e2]; unfold dv; rw [decide_eq_true hyes, cond_true]; rfl]
     exact ⟨k + 1, by omega, by omega, ⟨⟨rfl, rfl⟩, zF, zB, zN, zX⟩⟩)
 replace hc := of_decide_eq_false hc
 obtain rfl : k = p.pages.length := by omega
 refine c4 ?_
 refine K3 _ ?_
 refine yS fun _ K12 => ?_
 refine yR ?_
 refine yA rfl rfl ?_
 refine yN ?_
 dsimp only [St.put]
 rw [gl (Nat.le_refl p.pages.length)]
 refine K12 _ ?_
 refine yS fun _ K13 => ?_
 refine yS fun _ K14 => ?_
 refine yR ?_
 refine yM rfl rfl ?_
 refine yN ?_
 dsimp only [St.put]
 refine K14 _ ?_
 refine aw rfl (fun hc => ?_) (fun hc => ?_)
 ·have hb2 : b = true := hc
  have hr2 : p.seconds[i]? = some r := by rw [hb2] at hr; exact hr
  have hil := (List.getElem?_eq_some_iff.1 hr2).1
  refine yR ?_
  refine yF rfl rfl rfl rfl ?_
  refine yL rfl rfl rfl ?_
  refine yM rfl rfl ?_
  refine aa rfl (bt rfl rfl rfl rfl (br (by assumption)) (Enc.len _)) ?_
  refine yF rfl rfl rfl rfl ?_
  refine yL rfl rfl rfl ?_
  refine yA rfl rfl ?_
  refine yN ?_
  dsimp only [St.put]
  refine K13 _ ?_
  refine yS fun _ K15 => ?_
  refine yR ?_
  refine yM rfl rfl ?_
  refine aa rfl (sk rfl rfl rfl (by omega)) ?_
  refine yM rfl rfl ?_
  refine aa rfl (gy rfl rfl rfl (by omega)) ?_
  refine aa rfl (sj rfl rfl rfl (by omega) (by omega)) ?_
  refine yA rfl rfl ?_
  refine yN ?_
  dsimp only [St.put]
  rw [show (100 * ((ct p.pages (dg b (i : Int)) : Nat) : Int)) / (100 - r.miss) = jt p b i by unfold jt; rw [hmr]]
  have hbd := vx h b i
  refine K15 _ ?_
  refine yS fun _ K16 => ?_
  refine yR ?_
  refine yM rfl rfl ?_
  refine yM rfl rfl ?_
  refine yM rfl rfl ?_
  refine aa rfl (gy rfl rfl rfl (by omega)) ?_
  refine yA rfl rfl ?_
  refine yA rfl rfl ?_
  refine yN ?_
  dsimp only [St.put]
  refine K16 _ ?_
  refine ax ?_
  refine jr rfl (by constructor) (by constructor) zN zS ?_ ?_
  ·rfl
  exact vi (by unfold k7; rfl)
 have hb2 : b = false := hc
 have hr2 : p.firsts[i]? = some r := by rw [hb2] at hr; exact hr
 have hil := (List.getElem?_eq_some_iff.1 hr2).1
 refine yR ?_
 refine yF rfl rfl rfl rfl ?_
 refine yL rfl rfl rfl ?_
 refine yM rfl rfl ?_
 refine aa rfl (bt rfl rfl rfl rfl (br (by assumption)) (Enc.len _)) ?_
 refine yF rfl rfl rfl rfl ?_
 refine yL rfl rfl rfl ?_
 refine yA rfl rfl ?_
 refine yN ?_
 dsimp only [St.put]
 refine K13 _ ?_
 refine yS fun _ K17 => ?_
 refine yR ?_
 refine yM rfl rfl ?_
 refine aa rfl (sk rfl rfl rfl (by omega)) ?_
 refine yM rfl rfl ?_
 refine aa rfl (gy rfl rfl rfl (by omega)) ?_
 refine aa rfl (sj rfl rfl rfl (by omega) (by omega)) ?_
 refine yA rfl rfl ?_
 refine yN ?_
 dsimp only [St.put]
 rw [show (100 * ((ct p.pages (dg b (i : Int)) : Nat) : Int)) / (100 - r.miss) = jt p b i by unfold jt; rw [hmr]]
 have hbd := vx h b i
 refine K17 _ ?_
 refine yS fun _ K18 => ?_
 refine yR ?_
 refine yM rfl rfl ?_
 refine yM rfl rfl ?_
 refine yM rfl rfl ?_
 refine aa rfl (gy rfl rfl rfl (by omega)) ?_
 refine yA rfl rfl ?_
 refine yA rfl rfl ?_
 refine yN ?_
 dsimp only [St.put]
 refine K18 _ ?_
 refine ax ?_
 refine jr rfl (by constructor) (by constructor) zN zS ?_ ?_
 ·rfl
 exact vi (by unfold k7; rfl)
end Go.Proofs.YtbbdginipiljdaaGreatDoor
namespace Go.Proofs.YtbbdginipiljdaaGreatDoor
set_option maxRecDepth 10000
open Go Go.RowKit Go.AB
open Go.AB.Enc (cells)
open Go.PB (ba ai PlaceD bh bj bi bu am ah cy bq dd dj)
theorem uhj (p : ah) : Pure Tryz.prog 157 [val p] (lst p.firsts) := by
 refine cz Tryz.func157 rfl (fun m => (ca _ _)) fun G nx => ?_
 simp only [Tryz.ntmps157, List.length_cons, List.length_nil, Nat.reduceAdd, Nat.reduceSub]
 refine bx fun hlt => ?_
 dsimp only at hlt
 refine yS fun _ K1 => ?_
 refine yR ?_
 try dsimp only [St.put]
 refine yB rfl rfl rfl ?_
 refine yA rfl rfl ?_
 refine yN ?_
 dsimp only [St.put]
 refine K1 _ ?_
 refine yS fun _ K2 => ?_
 refine yR ?_
 refine yF rfl rfl rfl rfl ?_
 refine yL rfl rfl rfl ?_
 refine yA rfl rfl ?_
 refine yN ?_
 dsimp only [St.put]
 refine K2 _ ?_
 refine ax ?_
 refine bf rfl (by constructor) zN zS ?_
 rfl
theorem uhi (x : am) : Pure Tryz.prog 158 [val x] (.v (.int .i64 x.fst)) := by
 refine cz Tryz.func158 rfl (fun m => .v) fun G nx => ?_
 simp only [Tryz.ntmps158, List.length_cons, List.length_nil, Nat.reduceAdd, Nat.reduceSub]
 refine bx fun hlt => ?_
 dsimp only at hlt
 refine yS fun _ K1 => ?_
 refine yR ?_
 try dsimp only [St.put]
 refine yB rfl rfl rfl ?_
 refine yA rfl rfl ?_
 refine yN ?_
 dsimp only [St.put]
 refine K1 _ ?_
 refine yS fun _ K2 => ?_
 refine yR ?_
 refine yF rfl rfl rfl rfl ?_
 refine yL rfl rfl rfl ?_
 refine yA rfl rfl ?_
 refine yN ?_
 dsimp only [St.put]
 refine K2 _ ?_
 refine ax ?_
 refine bf rfl (by constructor) zN zS ?_
 rfl
theorem uhh (x : am) : Pure Tryz.prog 159 [val x] (lst x.found) := by
 refine cz Tryz.func159 rfl (fun m => (ca _ _)) fun G nx => ?_
 simp only [Tryz.ntmps159, List.length_cons, List.length_nil, Nat.reduceAdd, Nat.reduceSub]
 refine bx fun hlt => ?_
 dsimp only at hlt
 refine yS fun _ K1 => ?_
 refine yR ?_
 try dsimp only [St.put]
 refine yB rfl rfl rfl ?_
 refine yA rfl rfl ?_
 refine yN ?_
 dsimp only [St.put]
 refine K1 _ ?_
 refine yS fun _ K2 => ?_
 refine yR ?_
 refine yF rfl rfl rfl rfl ?_
 refine yL rfl rfl rfl ?_
 refine yA rfl rfl ?_
 refine yN ?_
 dsimp only [St.put]
 refine K2 _ ?_
 refine ax ?_
 refine bf rfl (by constructor) zN zS ?_
 rfl
theorem uhg (p : ah) : Pure Tryz.prog 160 [val p] (lst p.seconds) := by
 refine cz Tryz.func160 rfl (fun m => (ca _ _)) fun G nx => ?_
 simp only [Tryz.ntmps160, List.length_cons, List.length_nil, Nat.reduceAdd, Nat.reduceSub]
 refine bx fun hlt => ?_
 dsimp only at hlt
 refine yS fun _ K1 => ?_
 refine yR ?_
 try dsimp only [St.put]
 refine yB rfl rfl rfl ?_
 refine yA rfl rfl ?_
 refine yN ?_
 dsimp only [St.put]
 refine K1 _ ?_
 refine yS fun _ K2 => ?_
 refine yR ?_
 refine yF rfl rfl rfl rfl ?_
 refine yL rfl rfl rfl ?_
 refine yA rfl rfl ?_
 refine yN ?_
 dsimp only [St.put]
 refine K2 _ ?_
 refine ax ?_
 refine bf rfl (by constructor) zN zS ?_
 rfl
theorem uhf (x : am) : Pure Tryz.prog 161 [val x] (.v (.int .i64 x.snd)) := by
 refine cz Tryz.func161 rfl (fun m => .v) fun G nx => ?_
 simp only [Tryz.ntmps161, List.length_cons, List.length_nil, Nat.reduceAdd, Nat.reduceSub]
 refine bx fun hlt => ?_
 dsimp only at hlt
 refine yS fun _ K1 => ?_
 refine yR ?_
 try dsimp only [St.put]
 refine yB rfl rfl rfl ?_
 refine yA rfl rfl ?_
 refine yN ?_
 dsimp only [St.put]
 refine K1 _ ?_
 refine yS fun _ K2 => ?_
 refine yR ?_
 refine yF rfl rfl rfl rfl ?_
 refine yL rfl rfl rfl ?_
 refine yA rfl rfl ?_
 refine yN ?_
 dsimp only [St.put]
 refine K2 _ ?_
 refine ax ?_
 refine bf rfl (by constructor) zN zS ?_
 rfl
theorem uhe (x : am) : Pure Tryz.prog 162 [val x] (lst x.well) := by
 refine cz Tryz.func162 rfl (fun m => (ca _ _)) fun G nx => ?_
 simp only [Tryz.ntmps162, List.length_cons, List.length_nil, Nat.reduceAdd, Nat.reduceSub]
 refine bx fun hlt => ?_
 dsimp only at hlt
 refine yS fun _ K1 => ?_
 refine yR ?_
 try dsimp only [St.put]
 refine yB rfl rfl rfl ?_
 refine yA rfl rfl ?_
 refine yN ?_
 dsimp only [St.put]
 refine K1 _ ?_
 refine yS fun _ K2 => ?_
 refine yR ?_
 refine yF rfl rfl rfl rfl ?_
 refine yL rfl rfl rfl ?_
 refine yA rfl rfl ?_
 refine yN ?_
 dsimp only [St.put]
 refine K2 _ ?_
 refine ax ?_
 refine bf rfl (by constructor) zN zS ?_
 rfl
def sRd (b : Bool) : FuncId := bif b then 160 else 157
def sFt (b : Bool) : FuncId := bif b then 161 else 158
def sFd (b : Bool) : FuncId := bif b then 162 else 159
instance (b : Bool) : Fun Tryz.prog (sRd b) := by
 cases b
 ·exact inferInstanceAs (Fun Tryz.prog 157)
 exact inferInstanceAs (Fun Tryz.prog 160)
instance (b : Bool) : Fun Tryz.prog (sFt b) := by
 cases b
 ·exact inferInstanceAs (Fun Tryz.prog 158)
 exact inferInstanceAs (Fun Tryz.prog 161)
instance (b : Bool) : Fun Tryz.prog (sFd b) := by
 cases b
 ·exact inferInstanceAs (Fun Tryz.prog 159)
 exact inferInstanceAs (Fun Tryz.prog 162)
theorem ov (b : Bool) (p : ah) : Pure Tryz.prog (sRd b) [val p] (lst (du p b)) := by
 cases b
 ·exact uhj p
 exact uhg p
theorem w7 (b : Bool) (x : am) : Pure Tryz.prog (sFt b) [val x] (.v (.int .i64 (d9 b x))) := by
 cases b
 ·exact uhi x
 exact uhf x
theorem uav (b : Bool) (x : am) : Pure Tryz.prog (sFd b) [val x] (lst (dl b x)) := by
 cases b
 ·exact uhh x
 exact uhe x
abbrev nh (b : Bool) : List C := [.fn (.func (sRd b)) [], .fn (.func (sFt b)) [], .fn (.func (sFd b)) []]
abbrev sidL : List C := nh false ++ nh true
abbrev e8 : GObj := .fact (.pointer (some ⟨0, 0, none⟩)) (.elem sidL)
abbrev j8 (p : ah) : List C := [lst p.text, lst p.firsts, lst p.seconds, lst p.pages, lst (p.pages.map fun x => (dn p.text x : Int)), lst (p.pages.map (cp p.text)), lst (p.pages.map (c8 p.text))]
theorem uj : ∀ {k : Nat}, k < 2 → (sidL.drop (k * 3)).take 3 = nh (decide (k = 1))
 | 0, _ => rfl
 | 1, _ => rfl
 | k + 2, h => by omega
set_option maxHeartbeats 1000000 in
theorem ubj (p : ah) (b : Bool) (i : Nat) (h : ei p) (hi : i < (du p b).length) : Pure Tryz.prog 77 [.elem (j8 p), .agg (nh b), .v (.int .i64 (i : Int))] (.tup [.v (.int .i64 (jt p b i)), .v (.int .i64 (k7 p b i))]) := by
 refine cz Tryz.func77 rfl (fun m => .tup (cm .v (cm .v dh))) fun G nx => ?_
 simp only [Tryz.ntmps77, List.length_cons, List.length_nil, Nat.reduceAdd, Nat.reduceSub]
 refine bx fun hlt => ?_
 dsimp only at hlt
 have hown := xm h b (i : Int)
 have hrd := xe h b (i : Int)
 have hal := lf h.text
 have hnp := h.np
 have hmb := xz h b i
 obtain ⟨r, hr⟩ : ∃ r, (du p b)[i]? = some r := da hi
 have hmr := uce hr
 refine yS fun _ K1 => ?_
 refine yR ?_
 try dsimp only [St.put]
 refine yB rfl rfl rfl ?_
 refine yA rfl rfl ?_
 refine yA rfl rfl ?_
 refine yN ?_
 dsimp only [St.put]
 refine K1 _ ?_
 refine yS fun _ K2 => ?_
 refine yR ?_
 refine yA rfl rfl ?_
 refine yA rfl rfl ?_
 refine yN ?_
 dsimp only [St.put]
 refine K2 _ ?_
 refine yS fun _ K3 => ?_
 refine yS fun _ K4 => ?_
 refine yR ?_
 refine yM rfl rfl ?_
 refine aa rfl (ku rfl rfl) ?_
 refine yF rfl rfl rfl rfl ?_
 refine yF rfl rfl rfl rfl ?_
 refine yL rfl rfl rfl ?_
 refine aa rfl (bk rfl rfl (List.length_map _)) ?_
 refine yM rfl rfl ?_
 refine yN ?_
 dsimp only [St.put]
 refine K4 _ ?_
 refine bg ?_
 refine cr 20 ?_
 refine zQ ?_
 refine c6 (G) zX ?_
 dsimp only
 refine c9 (X := Nat) (fun k => k ≤ p.pages.length) (fun k => p.pages.length - k) (fun k => [(8, .v (.int .i64 ((ct (p.pages.take k) (dg b (i : Int)) : Nat) : Int))), (9, .v (.int .i64 ((ct (p.pages.take k) (dv p.text b (i : Int)) : Nat) : Int))), (10, .any), (11, .any), (19, .v (.int .i64 (k : Int)))]) (fun k G' => G') 0 rfl ?_ ?_ (fun _ _ h => h) ?_ ?_ ?_
 ·exact Nat.zero_le _
 ·exact zF
 ·rintro k hI
  exact zL
 ·exact fun _ _ _ _ h => .inl h
 rintro k hI
 dsimp only at hI ⊢
 refine yS fun _ K5 => ?_
 refine yR ?_
 refine aa rfl (cv rfl rfl rfl) ?_
 refine yN ?_
 dsimp only [St.put]
 refine K5 _ ?_
 refine yS fun _ K6 => ?_
 refine aw rfl (fun hc => ?_) (fun hc => ?_)
 ·replace hc := of_decide_eq_true hc
  obtain ⟨x, hx⟩ : ∃ x, p.pages[k]? = some x := da (by omega)
  have hax : (p.pages.map (cp p.text))[k]? = some (cp p.text x) := by rw [List.getElem?_map, hx]; rfl
  have hp := pageB_true.1 (h.page k x hx)
  have hfd : (dl b x).length ≤ 600 := by
   have hfl := ll hp.found
   have hwl := ll hp.well
   cases b
   ·show x.found.length ≤ 600
    omega
   show x.well.length ≤ 600
   omega
  have hgl := ra p.text x
  have ht1 := ud (l := p.pages) (g := dg b (i : Int)) k
  have ht2 := ud (l := p.pages) (g := dv p.text b (i : Int)) k
  refine az ?_
  refine K6 _ ?_
  refine yS fun _ K7 => ?_
  refine bg ?_
  refine yS fun _ K8 => ?_
  refine yR ?_
  refine yM rfl rfl ?_
  refine aa rfl (bt rfl rfl rfl rfl (br (by assumption)) (Enc.len _)) ?_
  refine yE rfl rfl rfl ?_
  try dsimp only [St.put]
  refine af rfl (d8 rfl ?_)
  refine yA rfl rfl ?_
  try dsimp only [St.put]
  refine af rfl (dc rfl rfl rfl zG rfl rfl (by rfl) ?_)
  refine yN ?_
  dsimp only [St.put]
  refine K8 _ ?_
  refine f7 (i := 11) rfl zG zC ?_
  dsimp only
  refine yS fun _ K9 => ?_
  refine yR ?_
  refine yF rfl rfl rfl rfl ?_
  refine yL rfl rfl rfl ?_
  refine yE rfl rfl rfl ?_
  try dsimp only [St.put]
  refine af rfl (bd rfl rfl rfl (w7 b x) ?_)
  refine yM rfl rfl ?_
  refine aa rfl (fh rfl rfl rfl) ?_
  refine yN ?_
  dsimp only [St.put]
  refine K9 _ ?_
  refine aw rfl (fun hc => ?_) (fun hc => ?_)
  ·have hyes : d9 b x = (i : Int) := of_decide_eq_true hc
   refine yS fun _ K10 => ?_
   refine yR ?_
   refine yM rfl rfl ?_
   refine yF rfl rfl rfl rfl ?_
   refine yL rfl rfl rfl ?_
   refine yE rfl rfl rfl ?_
   try dsimp only [St.put]
   refine af rfl (bd rfl rfl rfl (uav b x) ?_)
   refine aa rfl (bk rfl rfl (List.length_map _)) ?_
   refine aa rfl (bv rfl rfl rfl (by omega)) ?_
   refine yA rfl rfl ?_
   refine yN ?_
   dsimp only [St.put]
   refine K10 _ ?_
   refine yR ?_
   refine yM rfl rfl ?_
   refine yM rfl rfl ?_
   refine aa rfl (ku rfl rfl) ?_
   refine yF rfl rfl rfl rfl ?_
   refine yL rfl rfl rfl ?_
   refine yM rfl rfl ?_
   refine aa rfl (bt rfl rfl rfl rfl (br (by assumption)) (Enc.len _)) ?_
   refine yL rfl rfl rfl ?_
   refine aa rfl (bk rfl rfl (List.length_map _)) ?_
   refine aa rfl (bv rfl rfl rfl (by omega)) ?_
   refine yA rfl rfl ?_
   refine yN ?_
   dsimp only [St.put]
   refine K7 _ ?_
   refine yR ?_
   refine aa rfl (bv rfl rfl rfl (by omega)) ?_
   refine yM rfl rfl ?_
   refine yN ?_
   dsimp only [St.put]
   have e1 := lw (g := dg b (i : Int)) hx
   have e2 := lw (g := dv p.text b (i : Int)) hx
   first
   | (have z : d9 b x = (i : Int) := hyes
      rw [show ((ct (p.pages.take k) (dg b (i : Int)) : Nat) : Int) + ((dl b x).length : Int) = ((ct (p.pages.take (k + 1)) (dg b (i : Int)) : Nat) : Int) by rw [e1]; unfold dg; rw [decide_eq_true z, cond_true]; rfl, show ((ct (p.pages.take k) (dv p.text b (i : Int)) : Nat) : Int) + ((cp p.text x).length : Int) = ((ct (p.pages.take (k + 1)) (dv p.text b (i : Int)) : Nat) : Int) by rw [e2]; unfold dv; rw [decide_eq_true z, cond_true]; rfl]
      exact ⟨k + 1, by omega, by omega, ⟨⟨rfl, rfl⟩, zF, zB, zN, zX⟩⟩)
   | (have z : ¬ d9 b x = (i : Int) := hno
      rw [show ct (p.pages.take k) (dg b (i : Int)) = ct (p.pages.take (k + 1)) (dg b (i : Int)) by rw [e1]; unfold dg; rw [decide_eq_false z]; rfl, show ct (p.pages.take k) (dv p.text b (i : Int)) = ct (p.pages.take (k + 1)) (dv p.text b (i : Int)) by rw [e2]; unfold dv; rw [decide_eq_false z]; rfl]
      exact ⟨k + 1, by omega, by omega, ⟨⟨rfl, rfl⟩, zF, zB, zN, zX⟩⟩)
  have hno : ¬ d9 b x = (i : Int) := of_decide_eq_false hc
  refine az ?_
  refine K7 _ ?_
  refine yR ?_
  refine aa rfl (bv rfl rfl rfl (by omega)) ?_
  refine yM rfl rfl ?_
  refine yN ?_
  dsimp only [St.put]
  have e1 := lw (g := dg b (i : Int)) hx
  have e2 := lw (g := dv p.text b (i : Int)) hx
  first
  | (have z : d9 b x = (i : Int) := hyes
     rw [show ((ct (p.pages.take k) (dg b (i : Int)) : Nat) : Int) + ((dl b x).length : Int) = ((ct (p.pages.take (k + 1)) (dg b (i : Int)) : Nat) : Int) by rw [e1]; unfold dg; rw [decide_eq_true z, cond_true]; rfl, show ((ct (p.pages.take k) (dv p.text b (i : Int)) : Nat) : Int) + ((cp p.text x).length : Int) = ((ct (p.pages.take (k + 1)) (dv p.text b (i : Int)) : Nat) : Int) by rw [e2]; unfold dv; rw [decide_eq_true z, cond_true]; rfl]
     exact ⟨k + 1, by omega, by omega, ⟨⟨rfl, rfl⟩, zF, zB, zN, zX⟩⟩)
  | (have z : ¬ d9 b x = (i : Int) := hno
     rw [show ct (p.pages.take k) (dg b (i : Int)) = ct (p.pages.take (k + 1)) (dg b (i : Int)) by rw [e1]; unfold dg; rw [decide_eq_false z]; rfl, show ct (p.pages.take k) (dv p.text b (i : Int)) = ct (p.pages.take (k + 1)) (dv p.text b (i : Int)) by rw [e2]; unfold dv; rw [decide_eq_false z]; rfl]
     exact ⟨k + 1, by omega, by omega, ⟨⟨rfl, rfl⟩, zF, zB, zN, zX⟩⟩)
 replace hc := of_decide_eq_false hc
 obtain rfl : k = p.pages.length := by omega
 rw [gl (Nat.le_refl p.pages.length)]
 refine c4 ?_
 refine K3 _ ?_
 refine yS fun _ K11 => ?_
 refine gj [(0, none), (1, none), (2, none), (3, none), (4, none), (5, none), (6, none), (7, none), (9, none), (8, none), (10, none), (11, none), (12, none), (13, none), (14, none), (15, none)] (fun i => [8, 12].contains i) (fun i => [8, 12].contains i) (fun i => [0, 1, 2, 4, 5, 6, 9, 10, 11, 13, 14, 15].contains i) [] (by kernel_rfl) (by kernel_rfl) ?_
 refine xM rfl rfl rfl rfl rfl ?_
 refine ae rfl rfl rfl rfl (sk rfl rfl rfl (by omega)) ?_
 refine ae rfl rfl rfl rfl (cn rfl rfl rfl) ?_
 try dsimp only [St.put]
 refine bc rfl rfl rfl rfl (cc rfl rfl) ?_
 refine xM rfl rfl rfl rfl rfl ?_
 refine ae rfl rfl rfl rfl (ku rfl rfl) ?_
 refine ae rfl rfl rfl rfl (cn rfl rfl rfl) ?_
 try dsimp only [St.put]
 refine bc rfl rfl rfl rfl (c := val p) (ja (cs := j8 p) rfl rfl (show 4 ≤ 7 by decide)) ?_
 refine xM rfl rfl rfl rfl rfl ?_
 refine ix ?_
 try dsimp only [St.put]
 refine gw rfl rfl rfl rfl (bd rfl rfl rfl (ov b p) ?_)
 try dsimp only [St.put]
 refine eb rfl rfl rfl rfl (bt rfl rfl rfl rfl (br (by assumption)) (Enc.len _)) ?_
 refine eb rfl rfl rfl rfl (cn rfl rfl rfl) ?_
 try dsimp only [St.put]
 refine gw rfl rfl rfl rfl (SStep.e' (D := fun _ => True) (cc rfl rfl) ?_)
 refine eb rfl rfl rfl rfl (gy rfl rfl rfl (by omega)) ?_
 refine eb rfl rfl rfl rfl (sj rfl rfl rfl (by omega) (by omega)) ?_
 refine eb rfl rfl rfl rfl (fj rfl (by constructor)) ?_
 refine iw ?_
 dsimp only [St.put]
 rw [show (100 * ((ct p.pages (dg b (i : Int)) : Nat) : Int)) / (100 - r.miss) = jt p b i by unfold jt; rw [hmr]]
 have hbd := vx h b i
 refine K11 _ ?_
 refine yS fun _ K12 => ?_
 refine yR ?_
 refine yM rfl rfl ?_
 refine yM rfl rfl ?_
 refine yM rfl rfl ?_
 refine aa rfl (gy rfl rfl rfl (by omega)) ?_
 refine yA rfl rfl ?_
 refine yA rfl rfl ?_
 refine yN ?_
 dsimp only [St.put]
 refine K12 _ ?_
 refine ax ?_
 refine jr rfl (by constructor) (by constructor) zN zS ?_ ?_
 ·rfl
 exact vi (by unfold k7; rfl)
end Go.Proofs.YtbbdginipiljdaaGreatDoor
namespace Go.AB
open Go Go.RowKit
open Go.AB.Enc (cells)
open Go.PB (ba ai PlaceD bh bj bi bu am ah cy bq dd dj)
theorem uie {p : ah} (h : ei p) {j : Nat} {x : am} (hx : p.pages[j]? = some x) {k : Nat} (hk : k < (dt p x).length) : ∃ zn : Nat, (dt p x)[k]? = some (zn : Int) ∧ zn ≤ 6 := by
 have hp := pageB_true.1 (h.page j x hx)
 have h1 := hp.fst
 have h2 := hp.snd
 have h3 := h.nf
 have h4 := h.ns
 obtain ⟨z, hz⟩ : ∃ z, (dt p x)[k]? = some z := ⟨_, List.getElem?_eq_getElem hk⟩
 have hm := List.mem_of_getElem? hz
 have hb : 0 ≤ z ∧ z ≤ 6 := by
  unfold dt at hm
  rw [List.mem_append] at hm
  rcases hm with hm | hm
  ·by_cases q : 0 ≤ x.fst
   ·rw [decide_eq_true q, cond_true, List.mem_singleton] at hm; omega
   rw [decide_eq_false q] at hm; cases hm
  by_cases q : 0 ≤ x.snd
  ·rw [decide_eq_true q, cond_true, List.mem_singleton] at hm; omega
  rw [decide_eq_false q] at hm; cases hm
 exact ⟨z.toNat, by rw [hz]; congr 1; omega, by omega⟩
theorem xd (p : ah) (x : am) : (dt p x).length ≤ 2 := by
 unfold dt
 rw [List.length_append]
 cases decide (0 ≤ x.fst) <;> cases decide (0 ≤ x.snd) <;> simp
end Go.AB
namespace Go.Proofs.YtbbdginipiljdaaGreatDoor
set_option maxRecDepth 10000
open Go.RowKit Go.AB
open Go.AB.Enc (cells)
open Go.PB (ba ai PlaceD bh bj bi bu am ah cy bq dd dj)
end Go.Proofs.YtbbdginipiljdaaGreatDoor
namespace Go.Proofs.YtbbdginipiljdaaGreatDoor
set_option maxRecDepth 10000
open Go.RowKit Go.AB
open Go.AB.Enc (cells)
open Go.PB (ba ai PlaceD bh bj bi bu am ah cy bq dd dj)
end Go.Proofs.YtbbdginipiljdaaGreatDoor
namespace Go.AB
open Go Go.RowKit
open Go.AB.Enc (cells)
open Go.PB (ba ai PlaceD bh bj bi)
theorem lt3 {a b c a' b' c' : Int} : fe [a, b, c] [a', b', c'] < 0 ↔ a < a' ∨ a = a' ∧ (b < b' ∨ b = b' ∧ c < c') := by
 rw [m6 (a := [a, b, c]) (b := [a', b', c']) rfl]; simp [ltW]
end Go.AB
namespace Go.Proofs.YtbbdginipiljdaaGreatDoor
set_option maxRecDepth 10000
open Go.RowKit Go.AB
open Go.AB.Enc (cells)
open Go.PB (ba ai PlaceD bh bj bi)
theorem ufi (a b : PlaceD) : Pure Tryz.prog 121 [val a, val b] (.v (.bool (decide (fe (c7 a) (c7 b) < 0)))) := by
 refine cz Tryz.func121 rfl (fun m => .v) fun G nx => ?_
 simp only [Tryz.ntmps121, List.length_cons, List.length_nil, Nat.reduceAdd, Nat.reduceSub]
 refine bx fun hlt => ?_
 dsimp only at hlt
 refine yS fun _ K1 => ?_
 refine yR ?_
 try dsimp only [St.put]
 refine yB rfl rfl rfl ?_
 try dsimp only [St.put]
 refine yB rfl rfl rfl ?_
 refine yA rfl rfl ?_
 refine yN ?_
 dsimp only [St.put]
 refine K1 _ ?_
 refine yS fun _ K2 => ?_
 refine yS fun _ K3 => ?_
 refine yR ?_
 refine yF rfl rfl rfl rfl ?_
 refine yL rfl rfl rfl ?_
 refine yF rfl rfl rfl rfl ?_
 refine yL rfl rfl rfl ?_
 refine aa rfl (eu rfl rfl rfl) ?_
 refine yN ?_
 dsimp only [St.put]
 refine K3 _ ?_
 refine aw rfl (fun hc => ?_) (fun hc => ?_)
 ·have h1 : a.ch ≠ b.ch := jp hc
  refine yS fun _ K4 => ?_
  refine yR ?_
  refine yF rfl rfl rfl rfl ?_
  refine yL rfl rfl rfl ?_
  refine yF rfl rfl rfl rfl ?_
  refine yL rfl rfl rfl ?_
  refine aa rfl (cv rfl rfl rfl) ?_
  refine yA rfl rfl ?_
  refine yN ?_
  dsimp only [St.put]
  refine K4 _ ?_
  refine ax ?_
  refine bf rfl (by constructor) zN zS ?_
  exact vb (by rw [decide_eq_decide, c7, c7, lt3]; omega)
 have h1 : a.ch = b.ch := ia hc
 refine az ?_
 refine K2 _ ?_
 refine yS fun _ K5 => ?_
 refine yS fun _ K6 => ?_
 refine yR ?_
 refine yF rfl rfl rfl rfl ?_
 refine yL rfl rfl rfl ?_
 refine yF rfl rfl rfl rfl ?_
 refine yL rfl rfl rfl ?_
 refine aa rfl (eu rfl rfl rfl) ?_
 refine yN ?_
 dsimp only [St.put]
 refine K6 _ ?_
 refine aw rfl (fun hc => ?_) (fun hc => ?_)
 ·have h2 : a.ln ≠ b.ln := jp hc
  refine yS fun _ K7 => ?_
  refine yR ?_
  refine yF rfl rfl rfl rfl ?_
  refine yL rfl rfl rfl ?_
  refine yF rfl rfl rfl rfl ?_
  refine yL rfl rfl rfl ?_
  refine aa rfl (cv rfl rfl rfl) ?_
  refine yA rfl rfl ?_
  refine yN ?_
  dsimp only [St.put]
  refine K7 _ ?_
  refine ax ?_
  refine bf rfl (by constructor) zN zS ?_
  exact vb (by rw [decide_eq_decide, c7, c7, lt3]; omega)
 have h2 : a.ln = b.ln := ia hc
 refine az ?_
 refine K5 _ ?_
 refine yS fun _ K8 => ?_
 refine yR ?_
 refine yF rfl rfl rfl rfl ?_
 refine yL rfl rfl rfl ?_
 refine yF rfl rfl rfl rfl ?_
 refine yL rfl rfl rfl ?_
 refine aa rfl (cv rfl rfl rfl) ?_
 refine yA rfl rfl ?_
 refine yN ?_
 dsimp only [St.put]
 refine K8 _ ?_
 refine ax ?_
 refine bf rfl (by constructor) zN zS ?_
 exact vb (by rw [decide_eq_decide, c7, c7, lt3]; omega)
end Go.Proofs.YtbbdginipiljdaaGreatDoor
namespace Go.Proofs.YtbbdginipiljdaaGreatDoor
set_option maxRecDepth 10000
open Go.RowKit Go.AB
open Go.AB.Enc (cells)
open Go.PB (ba ai PlaceD bh bj bi bu am ah cy bq dd dj)
set_option maxHeartbeats 1000000 in
theorem uba (t : ai) (x : am) (r : Int) (l : List PlaceD) (ht : dp t = true) : Pure Tryz.prog 108 [g9 t, val x, .v (.int .i64 r), lst l] (.v (.bool (g5 t x r l))) := by
 refine cz Tryz.func108 rfl (fun m => .v) fun G nx => ?_
 simp only [Tryz.ntmps108, List.length_cons, List.length_nil, Nat.reduceAdd, Nat.reduceSub]
 refine bx fun hlt => ?_
 dsimp only at hlt
 refine la 3 (fun hfl => ?_)
 have hl0 := (fit_lst.1 hfl).1
 refine yS fun _ K1 => ?_
 refine yR ?_
 try dsimp only [St.put]
 refine yB rfl rfl rfl ?_
 try dsimp only [St.put]
 refine yB rfl rfl rfl ?_
 refine yA rfl rfl ?_
 refine yN ?_
 dsimp only [St.put]
 refine K1 _ ?_
 refine yS fun _ K2 => ?_
 refine yS fun _ K3 => ?_
 refine yR ?_
 refine yM rfl rfl ?_
 refine aa rfl (cv rfl rfl rfl) ?_
 refine eo (fun hs => ?_) (fun hs => ?_)
 ·have s1 : r < 0 := of_decide_eq_true hs
  refine yM rfl rfl ?_
  refine yM rfl rfl ?_
  refine aa rfl (bk rfl rfl (List.length_map _)) ?_
  refine aa rfl (ib rfl rfl rfl) ?_
  refine aa rfl (b9 rfl rfl (by constructor)) ?_
  refine yN ?_
  dsimp only [St.put]
  refine K3 _ ?_
  refine aw rfl (fun hc => ?_) (fun hc => ?_)
  ·have s2 : 0 < l.length := by
    have := of_decide_eq_true hc
    omega
   refine yS fun _ K4 => ?_
   refine yR ?_
   refine yA rfl rfl ?_
   refine yN ?_
   dsimp only [St.put]
   refine K4 _ ?_
   refine ax ?_
   refine bf rfl (by constructor) zN zS ?_
   exact vb (by
    have e1 : ¬ 0 ≤ r := by omega
    have e2 : l ≠ [] := fun e => by rw [e] at s2; exact absurd s2 (by simp)
    simp [g5, e1, e2])
  have s3 : (decide (0 ≤ r) || decide (l = [])) = true := by
   first
   | (rw [decide_eq_true (show 0 ≤ r by omega)]; rfl)
   | (have := of_decide_eq_false hc
      have : l = [] := List.eq_nil_of_length_eq_zero (by omega)
      simp [this])
  refine az ?_
  refine K2 _ ?_
  refine yS fun _ K5 => ?_
  refine yS fun _ K6 => ?_
  refine yR ?_
  refine yA rfl rfl ?_
  refine yN ?_
  dsimp only [St.put]
  refine K6 _ ?_
  refine bg ?_
  refine cr 10 ?_
  refine zQ ?_
  refine c6 (G) zX ?_
  dsimp only
  refine c9 (X := Nat) (fun i => i ≤ l.length ∧ dw t x l i = true) (fun i => l.length - i) (fun i => [(9, .v (.int .i64 (i : Int)))]) (fun i G' => G') 0 rfl ?_ ?_ (fun _ _ h => h) ?_ ?_ ?_
  ·exact ⟨Nat.zero_le _, rfl⟩
  ·exact zF
  ·rintro i hI
   exact zL
  ·exact fun _ _ _ _ h => .inl h
  rintro i hI
  dsimp only at hI ⊢
  refine yS fun _ K7 => ?_
  refine yS fun _ K8 => ?_
  refine yR ?_
  refine yM rfl rfl ?_
  refine yM rfl rfl ?_
  refine aa rfl (bk rfl rfl (List.length_map _)) ?_
  refine aa rfl (cv rfl rfl rfl) ?_
  refine yN ?_
  dsimp only [St.put]
  refine K8 _ ?_
  refine aw rfl (fun hc => ?_) (fun hc => ?_)
  ·replace hc := of_decide_eq_true hc
   obtain ⟨q, hq⟩ : ∃ q, l[i]? = some q := da (by omega)
   refine az ?_
   refine K7 _ ?_
   refine yS fun _ K9 => ?_
   refine bg ?_
   refine cr 10 ?_
   refine zQ ?_
   refine j4 (X := Bool) (fun d => jj t x l i = !d) (fun d => [(60, .v (.bool d))]) (fun d G' => G') rfl ?_ (fun _ _ _ _ h => .inl h) ?_ ?_
   ·rintro d hI
    exact zL
   ·refine qa [(0, none), (1, none), (2, none), (3, none), (4, none)] (fun _ => false) (fun i => [1, 2, 3].contains i) 33 (rl [5, 33]) (by kernel_rfl) (by kernel_rfl) ?_
    try dsimp only [St.put]
    refine bc rfl rfl rfl rfl (eg rfl rfl rfl) ?_
    refine xM rfl rfl rfl rfl rfl ?_
    refine xM rfl rfl rfl rfl rfl ?_
    try dsimp only [St.put]
    refine ae rfl rfl rfl rfl (bt rfl rfl rfl rfl (br (by assumption)) (Enc.len _)) ?_
    try dsimp only [St.put]
    refine bc rfl rfl rfl rfl (eg rfl rfl (Enc.len _)) ?_
    refine ay ?_
    refine d7 [5] (by kernel_rfl) (by simp) ?_
    refine dz ?_ ?_
    ·try dsimp only [St.put]
     refine iq rfl rfl rfl (bd rfl rfl rfl (ufe t q ht) ?_)
     refine ep [(6, none), (7, none), (8, none), (9, none), (10, none), (11, none), (12, none), (14, none), (15, none), (16, none), (17, none)] (fun i => [6, 7, 9, 10, 11, 14, 16].contains i) 21 (rl [13, 1, 4, 20]) (by kernel_rfl) ?_
     refine ae rfl rfl rfl rfl (dq rfl rfl) ?_
     refine ju (fun hs => ?_) (fun hs => ?_)
     ·have s4 := hs
      refine xM rfl rfl rfl rfl rfl ?_
      refine aj rfl rfl rfl ?_
      refine aj rfl rfl rfl ?_
      refine aj rfl rfl rfl ?_
      refine aj rfl rfl rfl ?_
      refine aj rfl rfl rfl ?_
      refine aj rfl rfl rfl ?_
      refine aj rfl rfl rfl ?_
      refine aj rfl rfl rfl ?_
      refine aj rfl rfl rfl ?_
      refine ay ?_
      refine d7 [13] (by kernel_rfl) (by simp) ?_
      refine dz ?_ ?_
      ·refine f8 rfl rfl rfl ?_
       refine d7 [18] (by kernel_rfl) (by simp) ?_
       refine dz ?_ ?_
       ·refine f8 rfl rfl rfl ?_
        refine ep [(19, none), (20, none), (21, none), (22, none), (23, none), (24, none), (25, none), (26, none), (27, none), (28, none), (29, none), (30, none), (31, none), (32, none), (33, none)] (fun i => [19, 20, 21, 22, 23, 24, 25, 26, 27, 28, 30, 31, 32].contains i) 4 (rl [34, 4]) (by kernel_rfl) ?_
        refine aj rfl rfl rfl ?_
        refine ae rfl rfl rfl rfl (b9 rfl rfl (by constructor)) ?_
        refine xM rfl rfl rfl rfl rfl ?_
        refine aj rfl rfl rfl ?_
        refine aj rfl rfl rfl ?_
        refine aj rfl rfl rfl ?_
        refine aj rfl rfl rfl ?_
        refine aj rfl rfl rfl ?_
        refine aj rfl rfl rfl ?_
        refine aj rfl rfl rfl ?_
        refine aj rfl rfl rfl ?_
        refine aj rfl rfl rfl ?_
        refine aj rfl rfl rfl ?_
        refine aj rfl rfl rfl ?_
        refine aj rfl rfl rfl ?_
        refine ay ?_
        refine d7 [34] (by kernel_rfl) (by simp) ?_
        refine dz ?_ ?_
        ·refine f8 rfl rfl rfl ?_
         refine ep [(35, none), (36, none), (37, none)] (fun i => [35, 36, 37].contains i) 0 (rl [38]) (by kernel_rfl) ?_
         refine aj rfl rfl rfl ?_
         refine aj rfl rfl rfl ?_
         refine ae rfl rfl rfl rfl (b9 rfl rfl (by constructor)) ?_
         refine ay ?_
         dsimp only [St.put]
         refine ij (by kernel_rfl) ?_
         refine ⟨_, ?_, ⟨⟨rfl, rfl⟩, zF, zB, zN, zX⟩⟩
         simp_all [jj, fl, mc]
         try (intro h0; omega)
        exact dx
       exact dx
      exact dx
     have hqp : fo t q = true := by simpa using hs
     refine xM rfl rfl rfl rfl rfl ?_
     try dsimp only [St.put]
     refine bc rfl rfl rfl rfl (eg rfl rfl rfl) ?_
     refine xM rfl rfl rfl rfl rfl ?_
     refine xM rfl rfl rfl rfl rfl ?_
     try dsimp only [St.put]
     refine ae rfl rfl rfl rfl (bt rfl rfl rfl rfl (br (by assumption)) (Enc.len _)) ?_
     try dsimp only [St.put]
     refine bc rfl rfl rfl rfl (eg rfl rfl (Enc.len _)) ?_
     refine ae rfl rfl rfl rfl (cn rfl rfl rfl) ?_
     try dsimp only [St.put]
     refine bc rfl rfl rfl rfl (cc rfl rfl) ?_
     refine ae rfl rfl rfl rfl (cn rfl rfl rfl) ?_
     try dsimp only [St.put]
     refine bc rfl rfl rfl rfl (cc rfl rfl) ?_
     refine ay ?_
     refine d7 [13] (by kernel_rfl) (by simp) ?_
     refine dz ?_ ?_
     ·try dsimp only [St.put]
      refine iq rfl rfl rfl (bd rfl rfl rfl (xf t q ht hqp) ?_)
      refine d7 [18] (by kernel_rfl) (by simp) ?_
      refine dz ?_ ?_
      ·try dsimp only [St.put]
       refine iq rfl rfl rfl (bd rfl rfl rfl (oy _ _ _) ?_)
       refine ep [(19, none), (20, none), (21, none), (22, none), (23, none), (24, none), (25, none), (26, none), (27, none), (28, none), (29, none), (30, none), (31, none), (32, none), (33, none)] (fun i => [19, 20, 21, 22, 23, 24, 25, 26, 27, 28, 30, 31, 32].contains i) 4 (rl [34, 4]) (by kernel_rfl) ?_
       refine ae rfl rfl rfl rfl (dq rfl rfl) ?_
       refine ju (fun hs => ?_) (fun hs => ?_)
       ·have s5 := hs
        refine ae rfl rfl rfl rfl (co rfl rfl (by constructor)) ?_
        refine xM rfl rfl rfl rfl rfl ?_
        refine aj rfl rfl rfl ?_
        refine aj rfl rfl rfl ?_
        refine aj rfl rfl rfl ?_
        refine aj rfl rfl rfl ?_
        refine aj rfl rfl rfl ?_
        refine aj rfl rfl rfl ?_
        refine aj rfl rfl rfl ?_
        refine aj rfl rfl rfl ?_
        refine aj rfl rfl rfl ?_
        refine aj rfl rfl rfl ?_
        refine aj rfl rfl rfl ?_
        refine aj rfl rfl rfl ?_
        refine ay ?_
        refine d7 [34] (by kernel_rfl) (by simp) ?_
        refine dz ?_ ?_
        ·refine f8 rfl rfl rfl ?_
         refine ep [(35, none), (36, none), (37, none)] (fun i => [35, 36, 37].contains i) 0 (rl [38]) (by kernel_rfl) ?_
         refine aj rfl rfl rfl ?_
         refine aj rfl rfl rfl ?_
         refine ae rfl rfl rfl rfl (b9 rfl rfl (by constructor)) ?_
         refine ay ?_
         dsimp only [St.put]
         refine ij (by kernel_rfl) ?_
         refine ⟨_, ?_, ⟨⟨rfl, rfl⟩, zF, zB, zN, zX⟩⟩
         simp_all [jj, fl, mc]
         try (intro h0; omega)
        exact dx
       have s5 := hs
       refine ae rfl rfl rfl rfl (co rfl rfl (by constructor)) ?_
       refine xM rfl rfl rfl rfl rfl ?_
       refine xM rfl rfl rfl rfl rfl ?_
       refine ae rfl rfl rfl rfl (ib rfl rfl rfl) ?_
       refine ju (fun hs => ?_) (fun hs => ?_)
       ·have s6 : 0 < i := by
         have := of_decide_eq_true hs
         omega
        obtain ⟨q0, hq0⟩ : ∃ q0, l[i - 1]? = some q0 := da (by omega)
        refine xM rfl rfl rfl rfl rfl ?_
        refine xM rfl rfl rfl rfl rfl ?_
        refine xM rfl rfl rfl rfl rfl ?_
        refine ae rfl rfl rfl rfl (gy rfl rfl rfl (by omega)) ?_
        try dsimp only [St.put]
        refine ae rfl rfl rfl rfl (bt (k := i - 1) rfl rfl rfl (by omega) (br hq0) (Enc.len _)) ?_
        try dsimp only [St.put]
        refine bc rfl rfl rfl rfl (eg rfl rfl (Enc.len _)) ?_
        refine xM rfl rfl rfl rfl rfl ?_
        refine xM rfl rfl rfl rfl rfl ?_
        try dsimp only [St.put]
        refine ae rfl rfl rfl rfl (bt rfl rfl rfl rfl (br (by assumption)) (Enc.len _)) ?_
        try dsimp only [St.put]
        refine bc rfl rfl rfl rfl (eg rfl rfl (Enc.len _)) ?_
        refine ay ?_
        refine d7 [34] (by kernel_rfl) (by simp) ?_
        refine dz ?_ ?_
        ·try dsimp only [St.put]
         refine iq rfl rfl rfl (bd rfl rfl rfl (ufi q0 q) ?_)
         refine ep [(35, none), (36, none), (37, none)] (fun i => [35, 36, 37].contains i) 0 (rl [38]) (by kernel_rfl) ?_
         refine ae rfl rfl rfl rfl (dq rfl rfl) ?_
         refine ae rfl rfl rfl rfl (b9 rfl rfl (by constructor)) ?_
         refine ae rfl rfl rfl rfl (co rfl rfl (by constructor)) ?_
         refine ay ?_
         dsimp only [St.put]
         refine ij (by kernel_rfl) ?_
         refine ⟨_, ?_, ⟨⟨rfl, rfl⟩, zF, zB, zN, zX⟩⟩
         simp_all [jj, fl, mc]
         try (intro h0; omega)
        exact dx
       have s6 : i = 0 := by
        have := of_decide_eq_false hs
        omega
       refine xM rfl rfl rfl rfl rfl ?_
       refine aj rfl rfl rfl ?_
       refine aj rfl rfl rfl ?_
       refine aj rfl rfl rfl ?_
       refine aj rfl rfl rfl ?_
       refine aj rfl rfl rfl ?_
       refine aj rfl rfl rfl ?_
       refine aj rfl rfl rfl ?_
       refine aj rfl rfl rfl ?_
       refine aj rfl rfl rfl ?_
       refine ay ?_
       refine d7 [34] (by kernel_rfl) (by simp) ?_
       refine dz ?_ ?_
       ·refine f8 rfl rfl rfl ?_
        refine ep [(35, none), (36, none), (37, none)] (fun i => [35, 36, 37].contains i) 0 (rl [38]) (by kernel_rfl) ?_
        refine aj rfl rfl rfl ?_
        refine ae rfl rfl rfl rfl (co rfl rfl (by constructor)) ?_
        refine ae rfl rfl rfl rfl (co rfl rfl (by constructor)) ?_
        refine ay ?_
        dsimp only [St.put]
        refine ij (by kernel_rfl) ?_
        refine ⟨_, ?_, ⟨⟨rfl, rfl⟩, zF, zB, zN, zX⟩⟩
        simp_all [jj, fl, mc]
        try (intro h0; omega)
       exact dx
      exact dx
     exact dx
    exact dx
   rintro d hst
   dsimp only at hst ⊢
   refine aw rfl (fun hc => ?_) (fun hc => ?_)
   ·skip
    refine yS fun _ K11 => ?_
    refine yR ?_
    refine yA rfl rfl ?_
    refine yN ?_
    dsimp only [St.put]
    refine K11 _ ?_
    refine ax ?_
    refine bf rfl (by constructor) zN zS ?_
    exact vb (by
     have e : jj t x l i = false := by rw [hst, hc]; rfl
     have : dw t x l l.length = false := by
      refine List.all_eq_false.2 ⟨i, List.mem_range.2 (by omega), by rw [e]; simp⟩
     simp [g5, this])
   skip
   refine az ?_
   refine K9 _ ?_
   refine yR ?_
   refine yM rfl rfl ?_
   refine aa rfl (bv rfl rfl rfl (by omega)) ?_
   refine yA rfl rfl ?_
   refine yN ?_
   dsimp only [St.put]
   exact ⟨i + 1, by omega, ⟨by omega, by rw [gz, hI.2, hst, hc]; rfl⟩, ⟨⟨rfl, rfl⟩, zF, zB, zN, zX⟩⟩
  replace hc := of_decide_eq_false hc
  obtain rfl : i = l.length := by omega
  refine c4 ?_
  refine K5 _ ?_
  refine yS fun _ K12 => ?_
  refine yR ?_
  refine yA rfl rfl ?_
  refine yN ?_
  dsimp only [St.put]
  refine K12 _ ?_
  refine ax ?_
  refine bf rfl (by constructor) zN zS ?_
  exact vb (by
   unfold g5
   rw [hI.2, Bool.and_true]
   first
   | exact s3.symm
   | (have e1 : 0 ≤ r := by omega
      simp [e1]))
 have s1 : ¬ r < 0 := of_decide_eq_false hs
 refine yM rfl rfl ?_
 refine yK rfl ?_
 refine yK rfl ?_
 refine yK rfl ?_
 refine aa rfl (co rfl rfl (by constructor)) ?_
 refine yN ?_
 dsimp only [St.put]
 refine K3 _ ?_
 refine aw rfl (fun h => by cases h) (fun _ => ?_)
 have s3 : (decide (0 ≤ r) || decide (l = [])) = true := by
  first
  | (rw [decide_eq_true (show 0 ≤ r by omega)]; rfl)
  | (have := of_decide_eq_false hc
     have : l = [] := List.eq_nil_of_length_eq_zero (by omega)
     simp [this])
 refine az ?_
 refine K2 _ ?_
 refine yS fun _ K13 => ?_
 refine yS fun _ K14 => ?_
 refine yR ?_
 refine yA rfl rfl ?_
 refine yN ?_
 dsimp only [St.put]
 refine K14 _ ?_
 refine bg ?_
 refine cr 10 ?_
 refine zQ ?_
 refine c6 (G) zX ?_
 dsimp only
 refine c9 (X := Nat) (fun i => i ≤ l.length ∧ dw t x l i = true) (fun i => l.length - i) (fun i => [(9, .v (.int .i64 (i : Int)))]) (fun i G' => G') 0 rfl ?_ ?_ (fun _ _ h => h) ?_ ?_ ?_
 ·exact ⟨Nat.zero_le _, rfl⟩
 ·exact zF
 ·rintro i hI
  exact zL
 ·exact fun _ _ _ _ h => .inl h
 rintro i hI
 dsimp only at hI ⊢
 refine yS fun _ K15 => ?_
 refine yS fun _ K16 => ?_
 refine yR ?_
 refine yM rfl rfl ?_
 refine yM rfl rfl ?_
 refine aa rfl (bk rfl rfl (List.length_map _)) ?_
 refine aa rfl (cv rfl rfl rfl) ?_
 refine yN ?_
 dsimp only [St.put]
 refine K16 _ ?_
 refine aw rfl (fun hc => ?_) (fun hc => ?_)
 ·replace hc := of_decide_eq_true hc
  obtain ⟨q, hq⟩ : ∃ q, l[i]? = some q := da (by omega)
  refine az ?_
  refine K15 _ ?_
  refine yS fun _ K17 => ?_
  refine bg ?_
  refine cr 10 ?_
  refine zQ ?_
  refine j4 (X := Bool) (fun d => jj t x l i = !d) (fun d => [(60, .v (.bool d))]) (fun d G' => G') rfl ?_ (fun _ _ _ _ h => .inl h) ?_ ?_
  ·rintro d hI
   exact zL
  ·refine qa [(0, none), (1, none), (2, none), (3, none), (4, none)] (fun _ => false) (fun i => [1, 2, 3].contains i) 33 (rl [5, 33]) (by kernel_rfl) (by kernel_rfl) ?_
   try dsimp only [St.put]
   refine bc rfl rfl rfl rfl (eg rfl rfl rfl) ?_
   refine xM rfl rfl rfl rfl rfl ?_
   refine xM rfl rfl rfl rfl rfl ?_
   try dsimp only [St.put]
   refine ae rfl rfl rfl rfl (bt rfl rfl rfl rfl (br (by assumption)) (Enc.len _)) ?_
   try dsimp only [St.put]
   refine bc rfl rfl rfl rfl (eg rfl rfl (Enc.len _)) ?_
   refine ay ?_
   refine d7 [5] (by kernel_rfl) (by simp) ?_
   refine dz ?_ ?_
   ·try dsimp only [St.put]
    refine iq rfl rfl rfl (bd rfl rfl rfl (ufe t q ht) ?_)
    refine ep [(6, none), (7, none), (8, none), (9, none), (10, none), (11, none), (12, none), (14, none), (15, none), (16, none), (17, none)] (fun i => [6, 7, 9, 10, 11, 14, 16].contains i) 21 (rl [13, 1, 4, 20]) (by kernel_rfl) ?_
    refine ae rfl rfl rfl rfl (dq rfl rfl) ?_
    refine ju (fun hs => ?_) (fun hs => ?_)
    ·have s4 := hs
     refine xM rfl rfl rfl rfl rfl ?_
     refine aj rfl rfl rfl ?_
     refine aj rfl rfl rfl ?_
     refine aj rfl rfl rfl ?_
     refine aj rfl rfl rfl ?_
     refine aj rfl rfl rfl ?_
     refine aj rfl rfl rfl ?_
     refine aj rfl rfl rfl ?_
     refine aj rfl rfl rfl ?_
     refine aj rfl rfl rfl ?_
     refine ay ?_
     refine d7 [13] (by kernel_rfl) (by simp) ?_
     refine dz ?_ ?_
     ·refine f8 rfl rfl rfl ?_
      refine d7 [18] (by kernel_rfl) (by simp) ?_
      refine dz ?_ ?_
      ·refine f8 rfl rfl rfl ?_
       refine ep [(19, none), (20, none), (21, none), (22, none), (23, none), (24, none), (25, none), (26, none), (27, none), (28, none), (29, none), (30, none), (31, none), (32, none), (33, none)] (fun i => [19, 20, 21, 22, 23, 24, 25, 26, 27, 28, 30, 31, 32].contains i) 4 (rl [34, 4]) (by kernel_rfl) ?_
       refine aj rfl rfl rfl ?_
       refine ae rfl rfl rfl rfl (b9 rfl rfl (by constructor)) ?_
       refine xM rfl rfl rfl rfl rfl ?_
       refine aj rfl rfl rfl ?_
       refine aj rfl rfl rfl ?_
       refine aj rfl rfl rfl ?_
       refine aj rfl rfl rfl ?_
       refine aj rfl rfl rfl ?_
       refine aj rfl rfl rfl ?_
       refine aj rfl rfl rfl ?_
       refine aj rfl rfl rfl ?_
       refine aj rfl rfl rfl ?_
       refine aj rfl rfl rfl ?_
       refine aj rfl rfl rfl ?_
       refine aj rfl rfl rfl ?_
       refine ay ?_
       refine d7 [34] (by kernel_rfl) (by simp) ?_
       refine dz ?_ ?_
       ·refine f8 rfl rfl rfl ?_
        refine ep [(35, none), (36, none), (37, none)] (fun i => [35, 36, 37].contains i) 0 (rl [38]) (by kernel_rfl) ?_
        refine aj rfl rfl rfl ?_
        refine aj rfl rfl rfl ?_
        refine ae rfl rfl rfl rfl (b9 rfl rfl (by constructor)) ?_
        refine ay ?_
        dsimp only [St.put]
        refine ij (by kernel_rfl) ?_
        refine ⟨_, ?_, ⟨⟨rfl, rfl⟩, zF, zB, zN, zX⟩⟩
        simp_all [jj, fl, mc]
        try (intro h0; omega)
       exact dx
      exact dx
     exact dx
    have hqp : fo t q = true := by simpa using hs
    refine xM rfl rfl rfl rfl rfl ?_
    try dsimp only [St.put]
    refine bc rfl rfl rfl rfl (eg rfl rfl rfl) ?_
    refine xM rfl rfl rfl rfl rfl ?_
    refine xM rfl rfl rfl rfl rfl ?_
    try dsimp only [St.put]
    refine ae rfl rfl rfl rfl (bt rfl rfl rfl rfl (br (by assumption)) (Enc.len _)) ?_
    try dsimp only [St.put]
    refine bc rfl rfl rfl rfl (eg rfl rfl (Enc.len _)) ?_
    refine ae rfl rfl rfl rfl (cn rfl rfl rfl) ?_
    try dsimp only [St.put]
    refine bc rfl rfl rfl rfl (cc rfl rfl) ?_
    refine ae rfl rfl rfl rfl (cn rfl rfl rfl) ?_
    try dsimp only [St.put]
    refine bc rfl rfl rfl rfl (cc rfl rfl) ?_
    refine ay ?_
    refine d7 [13] (by kernel_rfl) (by simp) ?_
    refine dz ?_ ?_
    ·try dsimp only [St.put]
     refine iq rfl rfl rfl (bd rfl rfl rfl (xf t q ht hqp) ?_)
     refine d7 [18] (by kernel_rfl) (by simp) ?_
     refine dz ?_ ?_
     ·try dsimp only [St.put]
      refine iq rfl rfl rfl (bd rfl rfl rfl (oy _ _ _) ?_)
      refine ep [(19, none), (20, none), (21, none), (22, none), (23, none), (24, none), (25, none), (26, none), (27, none), (28, none), (29, none), (30, none), (31, none), (32, none), (33, none)] (fun i => [19, 20, 21, 22, 23, 24, 25, 26, 27, 28, 30, 31, 32].contains i) 4 (rl [34, 4]) (by kernel_rfl) ?_
      refine ae rfl rfl rfl rfl (dq rfl rfl) ?_
      refine ju (fun hs => ?_) (fun hs => ?_)
      ·have s5 := hs
       refine ae rfl rfl rfl rfl (co rfl rfl (by constructor)) ?_
       refine xM rfl rfl rfl rfl rfl ?_
       refine aj rfl rfl rfl ?_
       refine aj rfl rfl rfl ?_
       refine aj rfl rfl rfl ?_
       refine aj rfl rfl rfl ?_
       refine aj rfl rfl rfl ?_
       refine aj rfl rfl rfl ?_
       refine aj rfl rfl rfl ?_
       refine aj rfl rfl rfl ?_
       refine aj rfl rfl rfl ?_
       refine aj rfl rfl rfl ?_
       refine aj rfl rfl rfl ?_
       refine aj rfl rfl rfl ?_
       refine ay ?_
       refine d7 [34] (by kernel_rfl) (by simp) ?_
       refine dz ?_ ?_
       ·refine f8 rfl rfl rfl ?_
        refine ep [(35, none), (36, none), (37, none)] (fun i => [35, 36, 37].contains i) 0 (rl [38]) (by kernel_rfl) ?_
        refine aj rfl rfl rfl ?_
        refine aj rfl rfl rfl ?_
        refine ae rfl rfl rfl rfl (b9 rfl rfl (by constructor)) ?_
        refine ay ?_
        dsimp only [St.put]
        refine ij (by kernel_rfl) ?_
        refine ⟨_, ?_, ⟨⟨rfl, rfl⟩, zF, zB, zN, zX⟩⟩
        simp_all [jj, fl, mc]
        try (intro h0; omega)
       exact dx
      have s5 := hs
      refine ae rfl rfl rfl rfl (co rfl rfl (by constructor)) ?_
      refine xM rfl rfl rfl rfl rfl ?_
      refine xM rfl rfl rfl rfl rfl ?_
      refine ae rfl rfl rfl rfl (ib rfl rfl rfl) ?_
      refine ju (fun hs => ?_) (fun hs => ?_)
      ·have s6 : 0 < i := by
        have := of_decide_eq_true hs
        omega
       obtain ⟨q0, hq0⟩ : ∃ q0, l[i - 1]? = some q0 := da (by omega)
       refine xM rfl rfl rfl rfl rfl ?_
       refine xM rfl rfl rfl rfl rfl ?_
       refine xM rfl rfl rfl rfl rfl ?_
       refine ae rfl rfl rfl rfl (gy rfl rfl rfl (by omega)) ?_
       try dsimp only [St.put]
       refine ae rfl rfl rfl rfl (bt (k := i - 1) rfl rfl rfl (by omega) (br hq0) (Enc.len _)) ?_
       try dsimp only [St.put]
       refine bc rfl rfl rfl rfl (eg rfl rfl (Enc.len _)) ?_
       refine xM rfl rfl rfl rfl rfl ?_
       refine xM rfl rfl rfl rfl rfl ?_
       try dsimp only [St.put]
       refine ae rfl rfl rfl rfl (bt rfl rfl rfl rfl (br (by assumption)) (Enc.len _)) ?_
       try dsimp only [St.put]
       refine bc rfl rfl rfl rfl (eg rfl rfl (Enc.len _)) ?_
       refine ay ?_
       refine d7 [34] (by kernel_rfl) (by simp) ?_
       refine dz ?_ ?_
       ·try dsimp only [St.put]
        refine iq rfl rfl rfl (bd rfl rfl rfl (ufi q0 q) ?_)
        refine ep [(35, none), (36, none), (37, none)] (fun i => [35, 36, 37].contains i) 0 (rl [38]) (by kernel_rfl) ?_
        refine ae rfl rfl rfl rfl (dq rfl rfl) ?_
        refine ae rfl rfl rfl rfl (b9 rfl rfl (by constructor)) ?_
        refine ae rfl rfl rfl rfl (co rfl rfl (by constructor)) ?_
        refine ay ?_
        dsimp only [St.put]
        refine ij (by kernel_rfl) ?_
        refine ⟨_, ?_, ⟨⟨rfl, rfl⟩, zF, zB, zN, zX⟩⟩
        simp_all [jj, fl, mc]
        try (intro h0; omega)
       exact dx
      have s6 : i = 0 := by
       have := of_decide_eq_false hs
       omega
      refine xM rfl rfl rfl rfl rfl ?_
      refine aj rfl rfl rfl ?_
      refine aj rfl rfl rfl ?_
      refine aj rfl rfl rfl ?_
      refine aj rfl rfl rfl ?_
      refine aj rfl rfl rfl ?_
      refine aj rfl rfl rfl ?_
      refine aj rfl rfl rfl ?_
      refine aj rfl rfl rfl ?_
      refine aj rfl rfl rfl ?_
      refine ay ?_
      refine d7 [34] (by kernel_rfl) (by simp) ?_
      refine dz ?_ ?_
      ·refine f8 rfl rfl rfl ?_
       refine ep [(35, none), (36, none), (37, none)] (fun i => [35, 36, 37].contains i) 0 (rl [38]) (by kernel_rfl) ?_
       refine aj rfl rfl rfl ?_
       refine ae rfl rfl rfl rfl (co rfl rfl (by constructor)) ?_
       refine ae rfl rfl rfl rfl (co rfl rfl (by constructor)) ?_
       refine ay ?_
       dsimp only [St.put]
       refine ij (by kernel_rfl) ?_
       refine ⟨_, ?_, ⟨⟨rfl, rfl⟩, zF, zB, zN, zX⟩⟩
       simp_all [jj, fl, mc]
       try (intro h0; omega)
      exact dx
     exact dx
    exact dx
   exact dx
  rintro d hst
  dsimp only at hst ⊢
  refine aw rfl (fun hc => ?_) (fun hc => ?_)
  ·skip
   refine yS fun _ K19 => ?_
   refine yR ?_
   refine yA rfl rfl ?_
   refine yN ?_
   dsimp only [St.put]
   refine K19 _ ?_
   refine ax ?_
   refine bf rfl (by constructor) zN zS ?_
   exact vb (by
    have e : jj t x l i = false := by rw [hst, hc]; rfl
    have : dw t x l l.length = false := by
     refine List.all_eq_false.2 ⟨i, List.mem_range.2 (by omega), by rw [e]; simp⟩
    simp [g5, this])
  skip
  refine az ?_
  refine K17 _ ?_
  refine yR ?_
  refine yM rfl rfl ?_
  refine aa rfl (bv rfl rfl rfl (by omega)) ?_
  refine yA rfl rfl ?_
  refine yN ?_
  dsimp only [St.put]
  exact ⟨i + 1, by omega, ⟨by omega, by rw [gz, hI.2, hst, hc]; rfl⟩, ⟨⟨rfl, rfl⟩, zF, zB, zN, zX⟩⟩
 replace hc := of_decide_eq_false hc
 obtain rfl : i = l.length := by omega
 refine c4 ?_
 refine K13 _ ?_
 refine yS fun _ K20 => ?_
 refine yR ?_
 refine yA rfl rfl ?_
 refine yN ?_
 dsimp only [St.put]
 refine K20 _ ?_
 refine ax ?_
 refine bf rfl (by constructor) zN zS ?_
 exact vb (by
  unfold g5
  rw [hI.2, Bool.and_true]
  first
  | exact s3.symm
  | (have e1 : 0 ≤ r := by omega
     simp [e1]))
end Go.Proofs.YtbbdginipiljdaaGreatDoor
namespace Go.AB
open Go Go.RowKit
open Go.AB.Enc (cells)
open Go.PB (ba ai PlaceD bh bj bi bu am ah cy bq dd dj)
def l4 (p : ah) (last : Int) (x : am) : Bool := decide (last < x.fr) && decide (x.fr ≤ x.to) && decide (x.to < (l3 p.text : Int)) && inB x.fst (-1) ((p.firsts.length : Int) - 1) && inB x.snd (-1) ((p.seconds.length : Int) - 1)
theorem ut (p : ah) (last : Int) (x : am) : lh p last x = (l4 p last x && (g5 p.text x x.fst x.found && g5 p.text x x.snd x.well)) := by
 unfold lh l4
 cases decide (last < x.fr) <;> cases decide (x.fr ≤ x.to) <;> cases decide (x.to < (l3 p.text : Int)) <;> cases inB x.fst (-1) ((p.firsts.length : Int) - 1) <;> cases inB x.snd (-1) ((p.seconds.length : Int) - 1) <;> simp
theorem xg {p : ah} {j : Nat} {x : am} (h : p.pages[j]? = some x) : r8 p j = lh p (ig p.pages j) x := by unfold r8; rw [h]
theorem ucw {l : List am} {j : Nat} {x : am} (h : l[j]? = some x) : ig l (j + 1) = x.to := by simp only [ig, h]
theorem ur {p : ah} {j : Nat} {x : am} (h : p.pages[j]? = some x) (hb : lh p (ig p.pages j) x = false) : f3 p = false := by
 have : pt p p.pages.length = false := List.all_eq_false.2 ⟨j, List.mem_range.2 (List.getElem?_eq_some_iff.1 h).1, by rw [xg h, hb]; simp⟩
 simp [f3, this]
end Go.AB
namespace Go.Proofs.YtbbdginipiljdaaGreatDoor
set_option maxRecDepth 10000
open Go.RowKit Go.AB
open Go.AB.Enc (cells)
open Go.PB (ba ai PlaceD bh bj bi bu am ah cy bq dd dj)
set_option maxHeartbeats 2000000 in
theorem uip (p : ah) (ht : dp p.text = true) : Pure Tryz.prog 87 [val p] (.v (.bool (f3 p))) := by
 refine cz Tryz.func87 rfl (fun m => .v) fun G nx => ?_
 simp only [Tryz.ntmps87, List.length_cons, List.length_nil, Nat.reduceAdd, Nat.reduceSub]
 refine bx fun hlt => ?_
 dsimp only at hlt
 refine yS fun _ K1 => ?_
 refine yR ?_
 try dsimp only [St.put]
 refine yB rfl rfl rfl ?_
 refine yA rfl rfl ?_
 refine yN ?_
 dsimp only [St.put]
 refine K1 _ ?_
 refine yS fun _ K2 => ?_
 refine yS fun _ K3 => ?_
 refine yR ?_
 refine yF rfl rfl rfl rfl ?_
 refine yL rfl rfl rfl ?_
 refine aa rfl (bk rfl rfl (List.length_map _)) ?_
 refine aa rfl (ib rfl rfl rfl) ?_
 refine eo (fun hs => ?_) (fun hs => ?_)
 ·have s1 : ¬ p.firsts.length ≤ 3 := by
   have := of_decide_eq_true hs
   omega
  refine yM rfl rfl ?_
  refine yK rfl ?_
  refine yK rfl ?_
  refine yK rfl ?_
  refine yK rfl ?_
  refine aa rfl (b9 rfl rfl (by constructor)) ?_
  refine yM rfl rfl ?_
  refine yK rfl ?_
  refine yK rfl ?_
  refine yK rfl ?_
  refine yK rfl ?_
  refine aa rfl (b9 rfl rfl (by constructor)) ?_
  refine yN ?_
  dsimp only [St.put]
  refine K3 _ ?_
  refine aw rfl (fun _ => ?_) (fun h => by cases h)
  refine yS fun _ K4 => ?_
  refine yR ?_
  refine yA rfl rfl ?_
  refine yN ?_
  dsimp only [St.put]
  refine K4 _ ?_
  refine ax ?_
  refine bf rfl (by constructor) zN zS ?_
  exact vb (by first | (simp [f3, jn, s1]; done) | (simp [f3, jn, s2]; done) | (simp [f3, s3]; done))
 have s1 : p.firsts.length ≤ 3 := by
  have := of_decide_eq_false hs
  omega
 refine yM rfl rfl ?_
 refine yF rfl rfl rfl rfl ?_
 refine yL rfl rfl rfl ?_
 refine aa rfl (bk rfl rfl (List.length_map _)) ?_
 refine aa rfl (ib rfl rfl rfl) ?_
 refine eo (fun hs => ?_) (fun hs => ?_)
 ·have s2 : ¬ p.seconds.length ≤ 3 := by
   have := of_decide_eq_true hs
   omega
  refine aa rfl (co rfl rfl (by constructor)) ?_
  refine yM rfl rfl ?_
  refine yK rfl ?_
  refine yK rfl ?_
  refine yK rfl ?_
  refine yK rfl ?_
  refine aa rfl (b9 rfl rfl (by constructor)) ?_
  refine yN ?_
  dsimp only [St.put]
  refine K3 _ ?_
  refine aw rfl (fun _ => ?_) (fun h => by cases h)
  refine yS fun _ K5 => ?_
  refine yR ?_
  refine yA rfl rfl ?_
  refine yN ?_
  dsimp only [St.put]
  refine K5 _ ?_
  refine ax ?_
  refine bf rfl (by constructor) zN zS ?_
  exact vb (by first | (simp [f3, jn, s1]; done) | (simp [f3, jn, s2]; done) | (simp [f3, s3]; done))
 have s2 : p.seconds.length ≤ 3 := by
  have := of_decide_eq_false hs
  omega
 refine aa rfl (co rfl rfl (by constructor)) ?_
 refine yM rfl rfl ?_
 refine yF rfl rfl rfl rfl ?_
 refine yL rfl rfl rfl ?_
 refine aa rfl (bk rfl rfl (List.length_map _)) ?_
 refine aa rfl (ib rfl rfl rfl) ?_
 refine eo (fun hs => ?_) (fun hs => ?_)
 ·have s3 : ¬ p.pages.length ≤ 8 := by
   have := of_decide_eq_true hs
   omega
  refine aa rfl (co rfl rfl (by constructor)) ?_
  refine yN ?_
  dsimp only [St.put]
  refine K3 _ ?_
  refine aw rfl (fun _ => ?_) (fun h => by cases h)
  refine yS fun _ K6 => ?_
  refine yR ?_
  refine yA rfl rfl ?_
  refine yN ?_
  dsimp only [St.put]
  refine K6 _ ?_
  refine ax ?_
  refine bf rfl (by constructor) zN zS ?_
  exact vb (by first | (simp [f3, jn, s1]; done) | (simp [f3, jn, s2]; done) | (simp [f3, s3]; done))
 have s3 : p.pages.length ≤ 8 := by
  have := of_decide_eq_false hs
  omega
 obtain ⟨A, hA⟩ : ∃ A, p.firsts ++ p.seconds = A := ⟨_, rfl⟩
 have hAl : A.length ≤ 6 := by rw [← hA, List.length_append]; omega
 refine aa rfl (co rfl rfl (by constructor)) ?_
 refine yN ?_
 dsimp only [St.put]
 refine K3 _ ?_
 refine aw rfl (fun h => by cases h) (fun _ => ?_)
 refine az ?_
 refine K2 _ ?_
 refine yS fun _ K7 => ?_
 refine yR ?_
 refine yA rfl rfl ?_
 refine yN ?_
 dsimp only [St.put]
 refine K7 _ ?_
 refine uey 3 67 2 rfl (by decide) ?_
 refine yS fun _ K8 => ?_
 refine gj [(0, none), (1, none), (2, none), (4, none), (5, none), (3, none), (6, none), (7, none)] (fun i => [6].contains i) (fun i => [3, 6].contains i) (fun i => [0, 1, 4, 7].contains i) [] (by kernel_rfl) (by kernel_rfl) ?_
 refine xM rfl rfl rfl rfl rfl ?_
 refine ae rfl rfl rfl rfl (cn rfl rfl rfl) ?_
 try dsimp only [St.put]
 refine bc rfl rfl rfl rfl (cc rfl rfl) ?_
 refine ae rfl rfl rfl rfl (cn rfl rfl rfl) ?_
 try dsimp only [St.put]
 refine bc rfl rfl rfl rfl (cc rfl rfl) ?_
 refine ix ?_
 try dsimp only [St.put]
 refine je rfl rfl rfl (re (xs := ([] : List bu)) p.firsts rfl rfl zG rfl rfl rfl rfl zA zA (fun v1 => ⟨zD, ?_⟩))
 try dsimp only [St.put]
 refine je rfl rfl rfl (re (xs := ([] : List bu) ++ p.firsts) p.seconds rfl rfl zG rfl rfl rfl rfl zA zA (fun v2 => ⟨zD, ?_⟩))
 refine eb rfl rfl rfl rfl (fj rfl (by constructor)) ?_
 refine iw ?_
 dsimp only [St.put]
 refine K8 _ ?_
 refine zg 3 (([] : List bu) ++ p.firsts ++ p.seconds) rfl zG rfl rfl rfl ?_
 refine c6 G zX ?_
 dsimp only
 rw [show ([] : List bu) ++ p.firsts ++ p.seconds = A from hA]
 refine yS fun _ K9 => ?_
 refine yS fun _ K10 => ?_
 refine yR ?_
 refine yA rfl rfl ?_
 refine yN ?_
 dsimp only [St.put]
 refine K10 _ ?_
 refine bg ?_
 refine cr 9 ?_
 refine zQ ?_
 refine c6 (G) zX ?_
 dsimp only
 refine c9 (X := Nat) (fun i => i ≤ A.length ∧ (A.take i).all gr = true ∧ ((A.take i).map (·.id)).Nodup) (fun i => A.length - i) (fun i => [(4, .v (.int .i64 (i : Int))), (5, .any)]) (fun i G' => G') 0 rfl ?_ ?_ (fun _ _ h => h) ?_ ?_ ?_
 ·exact ⟨Nat.zero_le _, rfl, by simp⟩
 ·exact zF
 ·rintro i hI
  exact zL
 ·exact fun _ _ _ _ h => .inl h
 rintro i hI
 dsimp only at hI ⊢
 refine yS fun _ K11 => ?_
 refine yS fun _ K12 => ?_
 refine yR ?_
 refine yM rfl rfl ?_
 refine yM rfl rfl ?_
 refine aa rfl (bk rfl rfl (List.length_map _)) ?_
 refine aa rfl (cv rfl rfl rfl) ?_
 refine yN ?_
 dsimp only [St.put]
 refine K12 _ ?_
 refine aw rfl (fun hc => ?_) (fun hc => ?_)
 ·replace hc := of_decide_eq_true hc
  obtain ⟨r, hr⟩ : ∃ r, A[i]? = some r := da (by omega)
  refine az ?_
  refine K11 _ ?_
  refine yS fun _ K13 => ?_
  refine bg ?_
  refine yS fun _ K14 => ?_
  refine yS fun _ K15 => ?_
  refine yR ?_
  refine yM rfl rfl ?_
  refine yM rfl rfl ?_
  refine aa rfl (bt rfl rfl rfl rfl (br (by assumption)) (Enc.len _)) ?_
  refine yF rfl rfl rfl rfl ?_
  refine yL rfl rfl rfl ?_
  try dsimp only [St.put]
  refine af rfl (bd rfl rfl rfl (oy _ _ _) ?_)
  refine aa rfl (dq rfl rfl) ?_
  refine eo (fun hs => ?_) (fun hs => ?_)
  ·have q1 : inB r.id 0 9999 = false := by simpa using hs
   refine yM rfl rfl ?_
   refine yK rfl ?_
   refine yK rfl ?_
   refine yK rfl ?_
   refine yK rfl ?_
   refine yK rfl ?_
   refine yK rfl ?_
   refine yK rfl ?_
   refine aa rfl (b9 rfl rfl (by constructor)) ?_
   refine yN ?_
   dsimp only [St.put]
   refine K15 _ ?_
   refine aw rfl (fun _ => ?_) (fun h => by cases h)
   refine yS fun _ K16 => ?_
   refine yR ?_
   refine yA rfl rfl ?_
   refine yN ?_
   dsimp only [St.put]
   refine K16 _ ?_
   refine ax ?_
   refine bf rfl (by constructor) zN zS ?_
   exact vb (by
    have hb : gr r = false := by first | (simp [gr, q1]; done) | (simp [gr, q2]; done)
    have : A.all gr = false := j5 hr hb
    rw [← hA] at this
    simp only [f3, jn, this, Bool.and_false, Bool.false_and])
  have q1 : inB r.id 0 9999 = true := by simpa using hs
  refine yM rfl rfl ?_
  refine yM rfl rfl ?_
  refine yM rfl rfl ?_
  refine aa rfl (bt rfl rfl rfl rfl (br (by assumption)) (Enc.len _)) ?_
  refine yF rfl rfl rfl rfl ?_
  refine yL rfl rfl rfl ?_
  try dsimp only [St.put]
  refine af rfl (bd rfl rfl rfl (oy _ _ _) ?_)
  refine aa rfl (dq rfl rfl) ?_
  refine eo (fun hs => ?_) (fun hs => ?_)
  ·have q2 : inB r.miss 0 90 = false := by simpa using hs
   refine aa rfl (co rfl rfl (by constructor)) ?_
   refine yN ?_
   dsimp only [St.put]
   refine K15 _ ?_
   refine aw rfl (fun _ => ?_) (fun h => by cases h)
   refine yS fun _ K17 => ?_
   refine yR ?_
   refine yA rfl rfl ?_
   refine yN ?_
   dsimp only [St.put]
   refine K17 _ ?_
   refine ax ?_
   refine bf rfl (by constructor) zN zS ?_
   exact vb (by
    have hb : gr r = false := by first | (simp [gr, q1]; done) | (simp [gr, q2]; done)
    have : A.all gr = false := j5 hr hb
    rw [← hA] at this
    simp only [f3, jn, this, Bool.and_false, Bool.false_and])
  have q2 : inB r.miss 0 90 = true := by simpa using hs
  have hrb : gr r = true := by simp [gr, q1, q2]
  refine aa rfl (co rfl rfl (by constructor)) ?_
  refine yN ?_
  dsimp only [St.put]
  refine K15 _ ?_
  refine aw rfl (fun h => by cases h) (fun _ => ?_)
  refine az ?_
  refine K14 _ ?_
  refine yS fun _ K18 => ?_
  refine yR ?_
  refine yA rfl rfl ?_
  refine yN ?_
  dsimp only [St.put]
  refine K18 _ ?_
  refine bg ?_
  refine cr 9 ?_
  refine zQ ?_
  refine c6 (G) zX ?_
  dsimp only
  refine c9 (X := Nat) (fun k => k ≤ i ∧ ∀ y ∈ A.take k, y.id ≠ r.id) (fun k => i - k) (fun k => [(5, .v (.int .i64 (k : Int)))]) (fun k G' => G') 0 rfl ?_ ?_ (fun _ _ h => h) ?_ ?_ ?_
  ·exact ⟨Nat.zero_le _, by simp⟩
  ·exact zF
  ·rintro k hI
   exact zL
  ·exact fun _ _ _ _ h => .inl h
  rintro k hJ
  dsimp only at hJ ⊢
  refine yS fun _ K19 => ?_
  refine yS fun _ K20 => ?_
  refine yR ?_
  refine yM rfl rfl ?_
  refine yM rfl rfl ?_
  refine aa rfl (cv rfl rfl rfl) ?_
  refine yN ?_
  dsimp only [St.put]
  refine K20 _ ?_
  refine aw rfl (fun hc => ?_) (fun hc => ?_)
  ·replace hc := of_decide_eq_true hc
   obtain ⟨y, hy⟩ : ∃ y, A[k]? = some y := da (by omega)
   refine az ?_
   refine K19 _ ?_
   refine yS fun _ K21 => ?_
   refine bg ?_
   refine yS fun _ K22 => ?_
   refine gj [(0, none), (1, none), (2, none), (3, none), (4, none), (5, none), (6, none), (7, none), (8, none), (9, none), (10, none)] (fun i => [].contains i) (fun i => [].contains i) (fun i => [0, 1, 2, 3, 5, 6, 7, 8, 10].contains i) [] (by kernel_rfl) (by kernel_rfl) ?_
   refine xM rfl rfl rfl rfl rfl ?_
   refine xM rfl rfl rfl rfl rfl ?_
   try dsimp only [St.put]
   refine ae rfl rfl rfl rfl (bt rfl rfl rfl rfl (br (by assumption)) (Enc.len _)) ?_
   refine ae rfl rfl rfl rfl (cn rfl rfl rfl) ?_
   try dsimp only [St.put]
   refine bc rfl rfl rfl rfl (cc rfl rfl) ?_
   refine xM rfl rfl rfl rfl rfl ?_
   refine xM rfl rfl rfl rfl rfl ?_
   try dsimp only [St.put]
   refine ae rfl rfl rfl rfl (bt rfl rfl rfl rfl (br (by assumption)) (Enc.len _)) ?_
   refine ae rfl rfl rfl rfl (cn rfl rfl rfl) ?_
   try dsimp only [St.put]
   refine bc rfl rfl rfl rfl (cc rfl rfl) ?_
   refine ae rfl rfl rfl rfl (fh rfl rfl rfl) ?_
   refine ay ?_
   dsimp only [St.put]
   refine K22 _ ?_
   refine aw rfl (fun hc => ?_) (fun hc => ?_)
   ·have hyr : y.id = r.id := of_decide_eq_true hc
    refine yS fun _ K23 => ?_
    refine yR ?_
    refine yA rfl rfl ?_
    refine yN ?_
    dsimp only [St.put]
    refine K23 _ ?_
    refine ax ?_
    refine bf rfl (by constructor) zN zS ?_
    exact vb (by
     have : ¬ (A.map (·.id)).Nodup := xu hy hr (by omega) hyr
     rw [← hA] at this
     simp only [f3, jn, decide_eq_false this, Bool.and_false, Bool.false_and])
   have hne : y.id ≠ r.id := of_decide_eq_false hc
   refine az ?_
   refine K21 _ ?_
   refine yR ?_
   refine yM rfl rfl ?_
   refine aa rfl (bv rfl rfl rfl (by omega)) ?_
   refine yA rfl rfl ?_
   refine yN ?_
   dsimp only [St.put]
   exact ⟨k + 1, by omega, ⟨by omega, x5 (p := fun y : bu => y.id ≠ r.id) hy hne hJ.2⟩, ⟨⟨rfl, rfl⟩, zF, zB, zN, zX⟩⟩
  replace hc := of_decide_eq_false hc
  have hki : k = i := by omega
  rw [hki] at hJ
  have hnd : r.id ∉ (A.take i).map (·.id) := fun hm => by
   obtain ⟨y, hy1, hy2⟩ := List.mem_map.1 hm
   exact hJ.2 y hy1 hy2
  refine c4 ?_
  refine K13 _ ?_
  refine yR ?_
  refine yM rfl rfl ?_
  refine aa rfl (bv rfl rfl rfl (by omega)) ?_
  refine yA rfl rfl ?_
  refine yN ?_
  dsimp only [St.put]
  exact ⟨i + 1, by omega, ⟨by omega, by rw [qc hr, hI.2.1, hrb]; rfl, by rw [o7 hr]; exact xv hI.2.2 hnd⟩, ⟨⟨rfl, rfl⟩, zF, zB, zN, zX⟩⟩
 replace hc := of_decide_eq_false hc
 have hRB : jn p = true := by
  have h1 := hI.2.1
  have h2 := hI.2.2
  rw [gl (show A.length ≤ i by omega), ← hA] at h1 h2
  unfold jn
  rw [h1, decide_eq_true h2, decide_eq_true s1, decide_eq_true s2]; rfl
 refine c4 ?_
 refine K9 _ ?_
 refine yS fun _ K24 => ?_
 refine yR ?_
 refine yA rfl rfl ?_
 refine yN ?_
 dsimp only [St.put]
 refine K24 _ ?_
 refine yS fun _ K25 => ?_
 refine yS fun _ K26 => ?_
 refine yR ?_
 refine yA rfl rfl ?_
 refine yN ?_
 dsimp only [St.put]
 refine K26 _ ?_
 refine bg ?_
 refine cr 9 ?_
 refine zQ ?_
 refine c6 (G) zX ?_
 dsimp only
 refine c9 (X := Nat) (fun j => j ≤ p.pages.length ∧ pt p j = true) (fun j => p.pages.length - j) (fun j => [(6, .v (.int .i64 (ig p.pages j))), (7, .v (.int .i64 (j : Int))), (8, .any)]) (fun j G' => G') 0 rfl ?_ ?_ (fun _ _ h => h) ?_ ?_ ?_
 ·exact ⟨Nat.zero_le _, rfl⟩
 ·exact zF
 ·rintro j hI
  exact zL
 ·exact fun _ _ _ _ h => .inl h
 rintro j hK
 dsimp only at hK ⊢
 refine yS fun _ K27 => ?_
 refine yS fun _ K28 => ?_
 refine yR ?_
 refine yM rfl rfl ?_
 refine yF rfl rfl rfl rfl ?_
 refine yL rfl rfl rfl ?_
 refine aa rfl (bk rfl rfl (List.length_map _)) ?_
 refine aa rfl (cv rfl rfl rfl) ?_
 refine yN ?_
 dsimp only [St.put]
 refine K28 _ ?_
 refine aw rfl (fun hc => ?_) (fun hc => ?_)
 ·replace hc := of_decide_eq_true hc
  obtain ⟨x, hx⟩ : ∃ x, p.pages[j]? = some x := da (by omega)
  refine az ?_
  refine K27 _ ?_
  refine yS fun _ K29 => ?_
  refine bg ?_
  refine yS fun _ K30 => ?_
  refine yR ?_
  refine yF rfl rfl rfl rfl ?_
  refine yL rfl rfl rfl ?_
  refine yM rfl rfl ?_
  refine aa rfl (bt rfl rfl rfl rfl (br (by assumption)) (Enc.len _)) ?_
  refine yE rfl rfl rfl ?_
  try dsimp only [St.put]
  refine af rfl (d8 rfl ?_)
  try dsimp only [St.put]
  refine af rfl (dc rfl rfl rfl zG rfl rfl (by rfl) ?_)
  refine yN ?_
  dsimp only [St.put]
  refine K30 _ ?_
  refine f7 (i := 8) rfl zG zC ?_
  dsimp only
  refine yS fun _ K31 => ?_
  refine cr 9 ?_
  refine zQ ?_
  refine j4 (X := Bool) (fun d => l4 p (ig p.pages j) x = !d) (fun d => [(120, .v (.bool d))]) (fun d G' => G') rfl ?_ (fun _ _ _ _ h => .inl h) ?_ ?_
  ·rintro d hI
   exact zL
  ·refine qa [(0, none), (1, none), (2, none), (3, none), (4, none), (5, none), (6, none), (7, none), (8, none), (9, none), (10, none), (11, none), (12, none), (13, none), (14, none), (15, none)] (fun _ => false) (fun i => [0, 2, 3, 4, 5, 7, 9, 10, 11, 12, 14].contains i) 23 (rl [16, 23]) (by kernel_rfl) (by kernel_rfl) ?_
   refine ae rfl rfl rfl rfl (cn rfl rfl rfl) ?_
   try dsimp only [St.put]
   refine bc rfl rfl rfl rfl (cc rfl rfl) ?_
   refine xM rfl rfl rfl rfl rfl ?_
   refine ae rfl rfl rfl rfl (pv rfl rfl rfl) ?_
   refine ju (fun hs => ?_) (fun hs => ?_)
   ·have z1 : x.fr ≤ ig p.pages j := of_decide_eq_true hs
    refine xM rfl rfl rfl rfl rfl ?_
    refine aj rfl rfl rfl ?_
    refine aj rfl rfl rfl ?_
    refine aj rfl rfl rfl ?_
    refine aj rfl rfl rfl ?_
    refine aj rfl rfl rfl ?_
    refine ae rfl rfl rfl rfl (b9 rfl rfl (by constructor)) ?_
    refine xM rfl rfl rfl rfl rfl ?_
    refine aj rfl rfl rfl ?_
    refine aj rfl rfl rfl ?_
    refine aj rfl rfl rfl ?_
    refine aj rfl rfl rfl ?_
    refine ay ?_
    refine d7 [16] (by kernel_rfl) (by simp) ?_
    refine dz ?_ ?_
    ·refine f8 rfl rfl rfl ?_
     refine ep [(17, none), (18, none), (19, none), (20, none), (21, none), (22, none), (23, none), (24, none), (25, none)] (fun i => [17, 18, 19, 20, 22, 24, 25].contains i) 13 (rl [26, 13]) (by kernel_rfl) ?_
     refine aj rfl rfl rfl ?_
     refine ae rfl rfl rfl rfl (b9 rfl rfl (by constructor)) ?_
     refine xM rfl rfl rfl rfl rfl ?_
     refine aj rfl rfl rfl ?_
     refine aj rfl rfl rfl ?_
     refine aj rfl rfl rfl ?_
     refine aj rfl rfl rfl ?_
     refine aj rfl rfl rfl ?_
     refine aj rfl rfl rfl ?_
     refine ay ?_
     refine d7 [26] (by kernel_rfl) (by simp) ?_
     refine dz ?_ ?_
     ·refine f8 rfl rfl rfl ?_
      refine ep [(27, none), (28, none), (29, none), (30, none), (31, none), (32, none), (33, none), (34, none), (35, none)] (fun i => [27, 28, 29, 30, 32, 34, 35].contains i) 3 (rl [36, 3]) (by kernel_rfl) ?_
      refine aj rfl rfl rfl ?_
      refine ae rfl rfl rfl rfl (b9 rfl rfl (by constructor)) ?_
      refine xM rfl rfl rfl rfl rfl ?_
      refine aj rfl rfl rfl ?_
      refine aj rfl rfl rfl ?_
      refine aj rfl rfl rfl ?_
      refine aj rfl rfl rfl ?_
      refine aj rfl rfl rfl ?_
      refine aj rfl rfl rfl ?_
      refine ay ?_
      refine d7 [36] (by kernel_rfl) (by simp) ?_
      refine dz ?_ ?_
      ·refine f8 rfl rfl rfl ?_
       refine ep [(37, none), (38, none)] (fun i => [37, 38].contains i) 0 (rl [39]) (by kernel_rfl) ?_
       refine aj rfl rfl rfl ?_
       refine ae rfl rfl rfl rfl (b9 rfl rfl (by constructor)) ?_
       refine ay ?_
       dsimp only [St.put]
       refine ij (by kernel_rfl) ?_
       refine ⟨_, ?_, ⟨⟨rfl, rfl⟩, zF, zB, zN, zX⟩⟩
       simp_all [l4]
       try (intro h0; omega)
      exact dx
     exact dx
    exact dx
   have z1 : ¬ x.fr ≤ ig p.pages j := of_decide_eq_false hs
   refine xM rfl rfl rfl rfl rfl ?_
   refine ae rfl rfl rfl rfl (cn rfl rfl rfl) ?_
   try dsimp only [St.put]
   refine bc rfl rfl rfl rfl (cc rfl rfl) ?_
   refine ae rfl rfl rfl rfl (cn rfl rfl rfl) ?_
   try dsimp only [St.put]
   refine bc rfl rfl rfl rfl (cc rfl rfl) ?_
   refine ae rfl rfl rfl rfl (cv rfl rfl rfl) ?_
   refine ju (fun hs => ?_) (fun hs => ?_)
   ·have z2 : x.to < x.fr := of_decide_eq_true hs
    refine ae rfl rfl rfl rfl (co rfl rfl (by constructor)) ?_
    refine xM rfl rfl rfl rfl rfl ?_
    refine aj rfl rfl rfl ?_
    refine aj rfl rfl rfl ?_
    refine aj rfl rfl rfl ?_
    refine aj rfl rfl rfl ?_
    refine ay ?_
    refine d7 [16] (by kernel_rfl) (by simp) ?_
    refine dz ?_ ?_
    ·refine f8 rfl rfl rfl ?_
     refine ep [(17, none), (18, none), (19, none), (20, none), (21, none), (22, none), (23, none), (24, none), (25, none)] (fun i => [17, 18, 19, 20, 22, 24, 25].contains i) 13 (rl [26, 13]) (by kernel_rfl) ?_
     refine aj rfl rfl rfl ?_
     refine ae rfl rfl rfl rfl (b9 rfl rfl (by constructor)) ?_
     refine xM rfl rfl rfl rfl rfl ?_
     refine aj rfl rfl rfl ?_
     refine aj rfl rfl rfl ?_
     refine aj rfl rfl rfl ?_
     refine aj rfl rfl rfl ?_
     refine aj rfl rfl rfl ?_
     refine aj rfl rfl rfl ?_
     refine ay ?_
     refine d7 [26] (by kernel_rfl) (by simp) ?_
     refine dz ?_ ?_
     ·refine f8 rfl rfl rfl ?_
      refine ep [(27, none), (28, none), (29, none), (30, none), (31, none), (32, none), (33, none), (34, none), (35, none)] (fun i => [27, 28, 29, 30, 32, 34, 35].contains i) 3 (rl [36, 3]) (by kernel_rfl) ?_
      refine aj rfl rfl rfl ?_
      refine ae rfl rfl rfl rfl (b9 rfl rfl (by constructor)) ?_
      refine xM rfl rfl rfl rfl rfl ?_
      refine aj rfl rfl rfl ?_
      refine aj rfl rfl rfl ?_
      refine aj rfl rfl rfl ?_
      refine aj rfl rfl rfl ?_
      refine aj rfl rfl rfl ?_
      refine aj rfl rfl rfl ?_
      refine ay ?_
      refine d7 [36] (by kernel_rfl) (by simp) ?_
      refine dz ?_ ?_
      ·refine f8 rfl rfl rfl ?_
       refine ep [(37, none), (38, none)] (fun i => [37, 38].contains i) 0 (rl [39]) (by kernel_rfl) ?_
       refine aj rfl rfl rfl ?_
       refine ae rfl rfl rfl rfl (b9 rfl rfl (by constructor)) ?_
       refine ay ?_
       dsimp only [St.put]
       refine ij (by kernel_rfl) ?_
       refine ⟨_, ?_, ⟨⟨rfl, rfl⟩, zF, zB, zN, zX⟩⟩
       simp_all [l4]
       try (intro h0; omega)
      exact dx
     exact dx
    exact dx
   have z2 : ¬ x.to < x.fr := of_decide_eq_false hs
   refine ae rfl rfl rfl rfl (co rfl rfl (by constructor)) ?_
   refine xM rfl rfl rfl rfl rfl ?_
   refine ae rfl rfl rfl rfl (cn rfl rfl rfl) ?_
   try dsimp only [St.put]
   refine bc rfl rfl rfl rfl (cc rfl rfl) ?_
   refine ae rfl rfl rfl rfl (cn rfl rfl rfl) ?_
   try dsimp only [St.put]
   refine bc rfl rfl rfl rfl (c := g9 p.text) (ja (cs := cells p) rfl rfl (show 1 ≤ 4 by decide)) ?_
   refine ay ?_
   refine d7 [16] (by kernel_rfl) (by simp) ?_
   refine dz ?_ ?_
   ·try dsimp only [St.put]
    refine iq rfl rfl rfl (bd rfl rfl rfl (uil p.text ht) ?_)
    refine ep [(17, none), (18, none), (19, none), (20, none), (21, none), (22, none), (23, none), (24, none), (25, none)] (fun i => [17, 18, 19, 20, 22, 24, 25].contains i) 13 (rl [26, 13]) (by kernel_rfl) ?_
    refine ae rfl rfl rfl rfl (mu rfl rfl rfl) ?_
    refine ju (fun hs => ?_) (fun hs => ?_)
    ·have z3 : (l3 p.text : Int) ≤ x.to := of_decide_eq_true hs
     refine ae rfl rfl rfl rfl (co rfl rfl (by constructor)) ?_
     refine xM rfl rfl rfl rfl rfl ?_
     refine aj rfl rfl rfl ?_
     refine aj rfl rfl rfl ?_
     refine aj rfl rfl rfl ?_
     refine aj rfl rfl rfl ?_
     refine aj rfl rfl rfl ?_
     refine aj rfl rfl rfl ?_
     refine ay ?_
     refine d7 [26] (by kernel_rfl) (by simp) ?_
     refine dz ?_ ?_
     ·refine f8 rfl rfl rfl ?_
      refine ep [(27, none), (28, none), (29, none), (30, none), (31, none), (32, none), (33, none), (34, none), (35, none)] (fun i => [27, 28, 29, 30, 32, 34, 35].contains i) 3 (rl [36, 3]) (by kernel_rfl) ?_
      refine aj rfl rfl rfl ?_
      refine ae rfl rfl rfl rfl (b9 rfl rfl (by constructor)) ?_
      refine xM rfl rfl rfl rfl rfl ?_
      refine aj rfl rfl rfl ?_
      refine aj rfl rfl rfl ?_
      refine aj rfl rfl rfl ?_
      refine aj rfl rfl rfl ?_
      refine aj rfl rfl rfl ?_
      refine aj rfl rfl rfl ?_
      refine ay ?_
      refine d7 [36] (by kernel_rfl) (by simp) ?_
      refine dz ?_ ?_
      ·refine f8 rfl rfl rfl ?_
       refine ep [(37, none), (38, none)] (fun i => [37, 38].contains i) 0 (rl [39]) (by kernel_rfl) ?_
       refine aj rfl rfl rfl ?_
       refine ae rfl rfl rfl rfl (b9 rfl rfl (by constructor)) ?_
       refine ay ?_
       dsimp only [St.put]
       refine ij (by kernel_rfl) ?_
       refine ⟨_, ?_, ⟨⟨rfl, rfl⟩, zF, zB, zN, zX⟩⟩
       simp_all [l4]
       try (intro h0; omega)
      exact dx
     exact dx
    have z3 : ¬ (l3 p.text : Int) ≤ x.to := of_decide_eq_false hs
    refine ae rfl rfl rfl rfl (co rfl rfl (by constructor)) ?_
    refine xM rfl rfl rfl rfl rfl ?_
    refine ae rfl rfl rfl rfl (cn rfl rfl rfl) ?_
    try dsimp only [St.put]
    refine bc rfl rfl rfl rfl (cc rfl rfl) ?_
    refine ae rfl rfl rfl rfl (cn rfl rfl rfl) ?_
    try dsimp only [St.put]
    refine bc rfl rfl rfl rfl (cc rfl rfl) ?_
    refine ae rfl rfl rfl rfl (bk rfl rfl (List.length_map _)) ?_
    refine ae rfl rfl rfl rfl (gy rfl rfl rfl (by omega)) ?_
    refine ay ?_
    refine d7 [26] (by kernel_rfl) (by simp) ?_
    refine dz ?_ ?_
    ·try dsimp only [St.put]
     refine iq rfl rfl rfl (bd rfl rfl rfl (oy _ _ _) ?_)
     refine ep [(27, none), (28, none), (29, none), (30, none), (31, none), (32, none), (33, none), (34, none), (35, none)] (fun i => [27, 28, 29, 30, 32, 34, 35].contains i) 3 (rl [36, 3]) (by kernel_rfl) ?_
     refine ae rfl rfl rfl rfl (dq rfl rfl) ?_
     refine ju (fun hs => ?_) (fun hs => ?_)
     ·have z4 : inB x.fst (-1) ((p.firsts.length : Int) - 1) = false := by simpa using hs
      refine ae rfl rfl rfl rfl (co rfl rfl (by constructor)) ?_
      refine xM rfl rfl rfl rfl rfl ?_
      refine aj rfl rfl rfl ?_
      refine aj rfl rfl rfl ?_
      refine aj rfl rfl rfl ?_
      refine aj rfl rfl rfl ?_
      refine aj rfl rfl rfl ?_
      refine aj rfl rfl rfl ?_
      refine ay ?_
      refine d7 [36] (by kernel_rfl) (by simp) ?_
      refine dz ?_ ?_
      ·refine f8 rfl rfl rfl ?_
       refine ep [(37, none), (38, none)] (fun i => [37, 38].contains i) 0 (rl [39]) (by kernel_rfl) ?_
       refine aj rfl rfl rfl ?_
       refine ae rfl rfl rfl rfl (b9 rfl rfl (by constructor)) ?_
       refine ay ?_
       dsimp only [St.put]
       refine ij (by kernel_rfl) ?_
       refine ⟨_, ?_, ⟨⟨rfl, rfl⟩, zF, zB, zN, zX⟩⟩
       simp_all [l4]
       try (intro h0; omega)
      exact dx
     have z4 : inB x.fst (-1) ((p.firsts.length : Int) - 1) = true := by simpa using hs
     refine ae rfl rfl rfl rfl (co rfl rfl (by constructor)) ?_
     refine xM rfl rfl rfl rfl rfl ?_
     refine ae rfl rfl rfl rfl (cn rfl rfl rfl) ?_
     try dsimp only [St.put]
     refine bc rfl rfl rfl rfl (cc rfl rfl) ?_
     refine ae rfl rfl rfl rfl (cn rfl rfl rfl) ?_
     try dsimp only [St.put]
     refine bc rfl rfl rfl rfl (cc rfl rfl) ?_
     refine ae rfl rfl rfl rfl (bk rfl rfl (List.length_map _)) ?_
     refine ae rfl rfl rfl rfl (gy rfl rfl rfl (by omega)) ?_
     refine ay ?_
     refine d7 [36] (by kernel_rfl) (by simp) ?_
     refine dz ?_ ?_
     ·try dsimp only [St.put]
      refine iq rfl rfl rfl (bd rfl rfl rfl (oy _ _ _) ?_)
      refine ep [(37, none), (38, none)] (fun i => [37, 38].contains i) 0 (rl [39]) (by kernel_rfl) ?_
      refine ae rfl rfl rfl rfl (dq rfl rfl) ?_
      refine ju (fun hs => ?_) (fun hs => ?_)
      ·have z5 : inB x.snd (-1) ((p.seconds.length : Int) - 1) = false := by simpa using hs
       refine ae rfl rfl rfl rfl (co rfl rfl (by constructor)) ?_
       refine ay ?_
       dsimp only [St.put]
       refine ij (by kernel_rfl) ?_
       refine ⟨_, ?_, ⟨⟨rfl, rfl⟩, zF, zB, zN, zX⟩⟩
       simp_all [l4]
       try (intro h0; omega)
      have z5 : inB x.snd (-1) ((p.seconds.length : Int) - 1) = true := by simpa using hs
      refine ae rfl rfl rfl rfl (co rfl rfl (by constructor)) ?_
      refine ay ?_
      dsimp only [St.put]
      refine ij (by kernel_rfl) ?_
      refine ⟨_, ?_, ⟨⟨rfl, rfl⟩, zF, zB, zN, zX⟩⟩
      simp_all [l4]
      try (intro h0; omega)
     exact dx
    exact dx
   exact dx
  rintro d hst
  dsimp only at hst ⊢
  refine aw rfl (fun hc => ?_) (fun hc => ?_)
  ·have hhd : l4 p (ig p.pages j) x = false := by rw [hst, hc]; rfl
   refine yS fun _ K33 => ?_
   refine yR ?_
   refine yA rfl rfl ?_
   refine yN ?_
   dsimp only [St.put]
   refine K33 _ ?_
   refine ax ?_
   refine bf rfl (by constructor) zN zS ?_
   exact vb (ur hx (by rw [ut, hhd]; rfl)).symm
  have hhd : l4 p (ig p.pages j) x = true := by rw [hst, hc]; rfl
  refine az ?_
  refine K31 _ ?_
  refine yS fun _ K34 => ?_
  refine yS fun _ K35 => ?_
  refine yR ?_
  refine yF rfl rfl rfl rfl ?_
  try dsimp only [St.put]
  refine ci rfl (c := g9 p.text) (ja (cs := cells p) rfl rfl (show 1 ≤ 4 by decide)) ?_
  refine yE rfl rfl rfl ?_
  refine yF rfl rfl rfl rfl ?_
  refine yL rfl rfl rfl ?_
  refine yF rfl rfl rfl rfl ?_
  refine yL rfl rfl rfl ?_
  try dsimp only [St.put]
  refine af rfl (bd rfl rfl rfl (uba p.text x x.fst x.found ht) ?_)
  refine aa rfl (dq rfl rfl) ?_
  refine eo (fun hs => ?_) (fun hs => ?_)
  ·have hf1 : g5 p.text x x.fst x.found = false := by simpa using hs
   refine yM rfl rfl ?_
   refine yK rfl ?_
   refine yK rfl ?_
   refine yK rfl ?_
   refine yK rfl ?_
   refine yK rfl ?_
   refine yK rfl ?_
   refine yK rfl ?_
   refine yK rfl ?_
   refine yK rfl ?_
   refine aa rfl (b9 rfl rfl (by constructor)) ?_
   refine yN ?_
   dsimp only [St.put]
   refine K35 _ ?_
   refine aw rfl (fun _ => ?_) (fun h => by cases h)
   refine yS fun _ K36 => ?_
   refine yR ?_
   refine yA rfl rfl ?_
   refine yN ?_
   dsimp only [St.put]
   refine K36 _ ?_
   refine ax ?_
   refine bf rfl (by constructor) zN zS ?_
   exact vb (ur hx (by rw [ut, hhd, hf1]; first | rfl | (rw [hf2]; rfl))).symm
  have hf1 : g5 p.text x x.fst x.found = true := by simpa using hs
  refine yM rfl rfl ?_
  refine yF rfl rfl rfl rfl ?_
  try dsimp only [St.put]
  refine ci rfl (c := g9 p.text) (ja (cs := cells p) rfl rfl (show 1 ≤ 4 by decide)) ?_
  refine yE rfl rfl rfl ?_
  refine yF rfl rfl rfl rfl ?_
  refine yL rfl rfl rfl ?_
  refine yF rfl rfl rfl rfl ?_
  refine yL rfl rfl rfl ?_
  try dsimp only [St.put]
  refine af rfl (bd rfl rfl rfl (uba p.text x x.snd x.well ht) ?_)
  refine aa rfl (dq rfl rfl) ?_
  refine eo (fun hs => ?_) (fun hs => ?_)
  ·have hf2 : g5 p.text x x.snd x.well = false := by simpa using hs
   refine aa rfl (co rfl rfl (by constructor)) ?_
   refine yN ?_
   dsimp only [St.put]
   refine K35 _ ?_
   refine aw rfl (fun _ => ?_) (fun h => by cases h)
   refine yS fun _ K37 => ?_
   refine yR ?_
   refine yA rfl rfl ?_
   refine yN ?_
   dsimp only [St.put]
   refine K37 _ ?_
   refine ax ?_
   refine bf rfl (by constructor) zN zS ?_
   exact vb (ur hx (by rw [ut, hhd, hf1]; first | rfl | (rw [hf2]; rfl))).symm
  have hf2 : g5 p.text x x.snd x.well = true := by simpa using hs
  refine aa rfl (co rfl rfl (by constructor)) ?_
  refine yN ?_
  dsimp only [St.put]
  refine K35 _ ?_
  refine aw rfl (fun h => by cases h) (fun _ => ?_)
  refine az ?_
  refine K34 _ ?_
  refine yR ?_
  refine yF rfl rfl rfl rfl ?_
  refine yL rfl rfl rfl ?_
  refine yA rfl rfl ?_
  refine yN ?_
  dsimp only [St.put]
  refine K29 _ ?_
  refine yR ?_
  refine yM rfl rfl ?_
  refine aa rfl (bv rfl rfl rfl (by omega)) ?_
  refine yA rfl rfl ?_
  refine yN ?_
  dsimp only [St.put]
  rw [← ucw hx]
  exact ⟨j + 1, by omega, ⟨by omega, by rw [ubk, hK.2, xg hx, ut, hhd, hf1, hf2]; rfl⟩, ⟨⟨rfl, rfl⟩, zF, zB, zN, zX⟩⟩
 replace hc := of_decide_eq_false hc
 obtain rfl : j = p.pages.length := by omega
 refine c4 ?_
 refine K25 _ ?_
 refine yS fun _ K38 => ?_
 refine yR ?_
 refine yA rfl rfl ?_
 refine yN ?_
 dsimp only [St.put]
 refine K38 _ ?_
 refine ax ?_
 refine bf rfl (by constructor) zN zS ?_
 exact vb (by unfold f3; rw [hRB, hK.2, decide_eq_true s3]; rfl)
end Go.Proofs.YtbbdginipiljdaaGreatDoor
namespace Go.AB
open Go Go.RowKit
open Go.AB.Enc (cells)
open Go.PB (ba ai PlaceD bh bj bi bu am ah cy bq dd dj)
theorem qb {p : ah} {n : Int} (h : em p n = 0) : cx p = 0 ∧ ∃ (j : Nat) (x : am), n = (j : Int) ∧ p.pages[j]? = some x ∧ ly p n = x := by
 unfold em at h
 by_cases hc : cx p = 0
 ·rw [decide_eq_true hc, cond_true] at h
  cases hb : inB n 0 ((p.pages.length : Int) - 1)
  ·rw [hb] at h; cases h
  rw [inB_true] at hb
  obtain ⟨x, hx⟩ : ∃ x, p.pages[n.toNat]? = some x := ⟨_, List.getElem?_eq_getElem (show n.toNat < p.pages.length by omega)⟩
  exact ⟨hc, n.toNat, x, by omega, hx, by unfold ly; rw [hx]; rfl⟩
 rw [decide_eq_false hc, cond_false] at h
 exact absurd h hc
end Go.AB
namespace Go.Proofs.YtbbdginipiljdaaGreatDoor
set_option maxRecDepth 10000
open Go.RowKit Go.AB
open Go.AB.Enc (cells)
open Go.PB (ba ai PlaceD bh bj bi bu am ah cy bq dd dj)
theorem uir (p : ah) : Pure Tryz.prog 49 [val p] (.v (.int .i64 (cx p))) := by
 refine cz Tryz.func49 rfl (fun m => .v) fun G nx => ?_
 simp only [Tryz.ntmps49, List.length_cons, List.length_nil, Nat.reduceAdd, Nat.reduceSub]
 refine bx fun hlt => ?_
 dsimp only at hlt
 refine yS fun _ K1 => ?_
 refine yR ?_
 try dsimp only [St.put]
 refine yB rfl rfl rfl ?_
 refine yA rfl rfl ?_
 refine yN ?_
 dsimp only [St.put]
 refine K1 _ ?_
 refine yS fun _ K2 => ?_
 refine yS fun _ K3 => ?_
 refine yR ?_
 refine yF rfl rfl rfl rfl ?_
 try dsimp only [St.put]
 refine ci rfl (c := g9 p.text) (ja (cs := cells p) rfl rfl (show 1 ≤ 4 by decide)) ?_
 try dsimp only [St.put]
 refine af rfl (bd rfl rfl rfl (uob p.text) ?_)
 refine yA rfl rfl ?_
 refine yN ?_
 dsimp only [St.put]
 refine K3 _ ?_
 refine yS fun _ K4 => ?_
 refine yR ?_
 refine yM rfl rfl ?_
 refine aa rfl (eu rfl rfl rfl) ?_
 refine yN ?_
 dsimp only [St.put]
 refine K4 _ ?_
 refine aw rfl (fun hc => ?_) (fun hc => ?_)
 ·have ht : dp p.text = false := by
   have h0 := jp hc
   unfold i3 at h0
   cases h1 : dp p.text
   ·rfl
   rw [h1] at h0; exact absurd rfl h0
  refine yS fun _ K5 => ?_
  refine yR ?_
  refine yM rfl rfl ?_
  refine yA rfl rfl ?_
  refine yN ?_
  dsimp only [St.put]
  refine K5 _ ?_
  refine ax ?_
  refine bf rfl (by constructor) zN zS ?_
  exact vi (by simp [cx, i3, ht])
 have ht : dp p.text = true := by
  have h0 := ia hc
  unfold i3 at h0
  cases h1 : dp p.text
  ·rw [h1] at h0; cases h0
  rfl
 refine az ?_
 refine K2 _ ?_
 refine yS fun _ K6 => ?_
 refine yS fun _ K7 => ?_
 refine yR ?_
 refine yE rfl rfl rfl ?_
 try dsimp only [St.put]
 refine af rfl (bd rfl rfl rfl (uip p ht) ?_)
 refine aa rfl (dq rfl rfl) ?_
 refine yN ?_
 dsimp only [St.put]
 refine K7 _ ?_
 refine aw rfl (fun hc => ?_) (fun hc => ?_)
 ·have hp : f3 p = false := by simpa using hc
  refine yS fun _ K8 => ?_
  refine yR ?_
  refine yA rfl rfl ?_
  refine yN ?_
  dsimp only [St.put]
  refine K8 _ ?_
  refine ax ?_
  refine bf rfl (by constructor) zN zS ?_
  exact vi (by simp [cx, ht, hp])
 have hp : f3 p = true := by simpa using hc
 refine az ?_
 refine K6 _ ?_
 refine yS fun _ K9 => ?_
 refine yR ?_
 refine yA rfl rfl ?_
 refine yN ?_
 dsimp only [St.put]
 refine K9 _ ?_
 refine ax ?_
 refine bf rfl (by constructor) zN zS ?_
 exact vi (by simp [cx, ht, hp])
end Go.Proofs.YtbbdginipiljdaaGreatDoor
namespace Go.Proofs.YtbbdginipiljdaaGreatDoor
set_option maxRecDepth 10000
open Go.RowKit Go.AB
open Go.AB.Enc (cells)
open Go.PB (ba ai PlaceD bh bj bi bu am ah cy bq dd dj)
end Go.Proofs.YtbbdginipiljdaaGreatDoor
namespace Go.Proofs.YtbbdginipiljdaaGreatDoor
set_option maxRecDepth 10000
open Go.RowKit Go.AB
open Go.AB.Enc (cells)
open Go.PB (ba ai PlaceD bh bj bi bu am ah cy bq dd dj)
end Go.Proofs.YtbbdginipiljdaaGreatDoor
namespace Go.Proofs.YtbbdginipiljdaaGreatDoor
set_option maxRecDepth 10000
open Go.RowKit Go.AB
open Go.AB.Enc (cells)
open Go.PB (ba ai PlaceD bh bj bi bu am ah cy bq dd dj)
end Go.Proofs.YtbbdginipiljdaaGreatDoor
namespace Go.AB
open Go Go.RowKit
open Go.AB.Enc (cells)
open Go.PB (ba ai PlaceD bh bj bi bu am ah cy bq)
/-! ### First and second readers change their places -/
/-! ### Errors that are missed -/
end Go.AB
namespace Go.AB
open Go Go.RowKit
open Go.AB.Enc (cells)
open Go.PB (ba ai PlaceD bh bj bi bu am ah cy bq dd dj)
def qq (R : Nat → Int) (c : Int) (l : List Int) : Int := l.foldl (fun n z => min n (R z.toNat)) c
def ko (R : Nat → Int) (n : Int) (l : List Int) : Nat → Int := l.foldl (fun R z => fun i => bif decide (i = z.toNat) then R z.toNat - n else R i) R
theorem ug0 (R : Nat → Int) (n : Int) : ko R n [] = R := rfl
theorem ukd {R : Nat → Int} {c : Int} {l : List Int} {k : Nat} {z : Int} (h : l[k]? = some z) : qq R c (l.take (k + 1)) = min (qq R c (l.take k)) (R z.toNat) := by
 unfold qq; rw [List.take_add_one, h, Option.toList_some, List.foldl_append]; rfl
theorem ugz {R : Nat → Int} {n : Int} {l : List Int} {k : Nat} {z : Int} (h : l[k]? = some z) : ko R n (l.take (k + 1)) = fun i => bif decide (i = z.toNat) then ko R n (l.take k) z.toNat - n else ko R n (l.take k) i := by
 unfold ko; rw [List.take_add_one, h, Option.toList_some, List.foldl_append]; rfl
theorem ung {p : ah} {j : Nat} {x : am} (hx : p.pages[j]? = some x) (R C : Nat → Int) : (bp p).alone R C j = qq R (C j) (dt p x) := by
 simp only [Net.alone, bp, hx, dt, qq]
 by_cases q1 : 0 ≤ x.fst <;> by_cases q2 : 0 ≤ x.snd
 ·simp [q1, q2, nv, show ((p.firsts.length : Int) + x.snd).toNat = p.firsts.length + x.snd.toNat by omega]
 ·simp [q1, q2, nv]
 ·simp [q1, q2, nv, show ((p.firsts.length : Int) + x.snd).toNat = p.firsts.length + x.snd.toNat by omega]
 ·simp [q1, q2, nv]
theorem uks {p : ah} (h : ei p) {j : Nat} {x : am} (hx : p.pages[j]? = some x) (R : Nat → Int) (n : Int) : (bp p).lessR R j n = ko R n (dt p x) := by
 have hp := pageB_true.1 (h.page j x hx)
 have h1 := hp.fst
 have h2 := hp.snd
 funext i
 simp only [Net.lessR, Net.by, bp, hx, dt, ko]
 by_cases q1 : 0 ≤ x.fst <;> by_cases q2 : 0 ≤ x.snd
 ·have e2 : ((p.firsts.length : Int) + x.snd).toNat = p.firsts.length + x.snd.toNat := by omega
  have hne : ¬ p.firsts.length + x.snd.toNat = x.fst.toNat := by omega
  rw [decide_eq_true q1, decide_eq_true q2]
  simp only [cond_true, List.cons_append, List.nil_append, List.foldl_cons, List.foldl_nil, e2, Option.some.injEq]
  by_cases z1 : i = x.fst.toNat
  ·have z2 : ¬ i = p.firsts.length + x.snd.toNat := by omega
   simp [z1.symm, z2, Ne.symm z2]
  ·by_cases z2 : i = p.firsts.length + x.snd.toNat
   ·simp [z1, Ne.symm z1, z2, hne, Ne.symm hne]
   ·simp [z1, Ne.symm z1, z2, Ne.symm z2]
 ·rw [decide_eq_true q1, decide_eq_false q2]
  simp only [cond_true, cond_false, List.append_nil, List.foldl_cons, List.foldl_nil, Option.some.injEq]
  by_cases z1 : i = x.fst.toNat
  ·simp [z1]
  ·simp [z1, Ne.symm z1]
 ·have e2 : ((p.firsts.length : Int) + x.snd).toNat = p.firsts.length + x.snd.toNat := by omega
  rw [decide_eq_false q1, decide_eq_true q2]
  simp only [cond_true, cond_false, List.nil_append, List.foldl_cons, List.foldl_nil, e2, Option.some.injEq]
  by_cases z2 : i = p.firsts.length + x.snd.toNat
  ·simp [z2]
  ·simp [z2, Ne.symm z2]
 ·rw [decide_eq_false q1, decide_eq_false q2]
  simp
theorem zd {p : ah} {R C : Nat → Int} (hB : Bd p R C) {j : Nat} {n : Int} (h0 : 0 ≤ n) (hn : n ≤ (bp p).alone R C j) : Bd p ((bp p).lessR R j n) (er C j) := by
 refine ⟨fun i => ?_, fun k => ?_, hB.nr, hB.np⟩
 ·unfold Net.lessR
  cases hb : (bp p).by j i
  ·exact hB.r i
  ·have h1 := (Net.le_alone.1 hn).2 i hb
   have h2 := hB.r i
   show -1000000 ≤ R i - n ∧ R i - n ≤ 1000000
   omega
 ·unfold er
  cases decide (k = j)
  ·exact hB.c k
  ·exact ⟨Int.le_refl _, by show (0 : Int) ≤ 1000000; omega⟩
/-- what is above has been looked at -/
def FromTop (p : ah) (R C : Nat → Int) (j : Nat) (n : Int) : Prop := (bp p).pick R C j ≤ n ∧ n ≤ (bp p).alone R C j ∧ ∀ m, n < m → m ≤ (bp p).alone R C j → ¬ (bp p).most R C ≤ m + (bp p).most ((bp p).lessR R j m) (er C j)
theorem FromTop.start {p : ah} {R C : Nat → Int} {j : Nat} (h : (bp p).Pick R C j ((bp p).pick R C j)) : FromTop p R C j ((bp p).alone R C j) := ⟨h.le, Int.le_refl _, fun m h1 h2 => by omega⟩
theorem FromTop.stop {p : ah} {R C : Nat → Int} {j : Nat} {n : Int} (h : (bp p).Pick R C j ((bp p).pick R C j)) (k : FromTop p R C j n) (hs : (bp p).most R C ≤ n + (bp p).most ((bp p).lessR R j n) (er C j)) : n = (bp p).pick R C j :=
 Net.Pick.uniq ⟨Int.le_trans h.nn k.1, k.2.1, hs, k.2.2⟩ h
theorem FromTop.down {p : ah} {R C : Nat → Int} {j : Nat} {n : Int} (h : (bp p).Pick R C j ((bp p).pick R C j)) (k : FromTop p R C j n) (hs : ¬ (bp p).most R C ≤ n + (bp p).most ((bp p).lessR R j n) (er C j)) : FromTop p R C j (n - 1) := by
 refine ⟨?_, by have := k.2.1; omega, fun m h1 h2 => ?_⟩
 ·have h1 := k.1
  by_cases e : n = (bp p).pick R C j
  ·subst e
   exact absurd h.ok hs
  ·omega
 ·by_cases e : m = n
  ·subst e; exact hs
  ·exact k.2.2 m (by omega) h2
end Go.AB
namespace Go.AB
open Go Go.RowKit
open Go.AB.Enc (cells)
section
variable {P : Program} {o : Oper} {st : St} {K : St → Prop}
/-- An empty slice that is built: owned. -/
theorem ud9 {t e : TypeId} {sz bytes : Nat} [AppT P t e sz bytes] (ho : o.op = .buildSlice t 0 #[]) (hsz1 : 1 ≤ sz) (h : K (St.put { st with G := aq st.G st.nx (.arr 0 0 e sz 0 []), nx := st.nx + 1 } o.dst (.own st.nx 0 0))) : EStep P o st K :=
 j2 fun E w a hsim => by
  obtain ⟨ht, i, z, hie, hz, h1, h2, h3⟩ := AppT.spec (P := P) (t := t) (e := e) (sz := sz) (bytes := bytes)
  obtain ⟨ob, hob⟩ : ∃ ob, ob = Obj.cells #[] e := ⟨_, rfl⟩
  have hev := Ev.laid hsim.g (o := ob) 0 (.inl rfl)
  have hg := SimG.laid hsim.g (o := ob) 0 (.inl rfl)
  have hnew : (w.alloc ob).heap[w.heap.size]? = some ob := qy w ob
  have hsz : (w.alloc ob).heap.size = w.heap.size + 1 := by simp
  have hold : ∀ n tt b, (E.lay w.heap.size 0).T n = some tt → blk tt.2.2 = some b → b < w.heap.size := fun n tt b h5 h6 => (hsim.g.tb n _ _ _ b h5 h6).2
  have hnx := hsim.g.nx
  have hfr : ∀ b o', blk (.slice (some ⟨w.heap.size, 0, none⟩) 0 0) = some b → w.heap[b]? = some o' → False := fun b o' hbk ho' => by
   simp only [blk, Option.some.injEq] at hbk
   subst hbk
   have := (Array.getElem?_eq_some_iff.1 ho').1
   omega
  have hev2 := hev.thenName (.slice (some ⟨w.heap.size, 0, none⟩) 0 0) hfr
  have hg2 := SimG.name hg (.slice (some ⟨w.heap.size, 0, none⟩) 0 0) (.arr 0 0 e sz 0 []) (fun b hbk => by
   simp only [blk, Option.some.injEq] at hbk
   subst hbk
   exact ⟨hsim.g.base, by rw [hsz]; omega, fun n tt h5 h6 => absurd (hold n tt _ h5 h6) (by omega)⟩) (by
   refine ⟨.slice (some ⟨w.heap.size, 0, none⟩) 0 0, [], ?_, ⟨by simp, .inr ⟨w.heap.size, 0, _, rfl, hsim.g.base, hnew.trans (by rw [hob]), Nat.le_refl _, Nat.zero_le _, by simp, by simp⟩⟩, fun c hc => (by cases hc), Rs.nil, fun b hbk => ?_, hsz1⟩
   ·simp [Env.name, Env.lay, hnx]
   ·simp only [blk, Option.some.injEq] at hbk
    subst hbk
    simp [Env.name, Env.lay])
  refine ⟨.slice (some ⟨w.heap.size, 0, none⟩) 0 0, w.alloc ob, _, _, _, .own st.nx 0 0, ?_, hev2, ?_, hg2, h⟩
  ·subst hob
   simp [execOp, ho, Instr.buildSlice, run_underlying ht, sizeOf, typeInfo, hie, Instr.fill, newRow, newObj, Sem.run, show (Array.map (fun _ => (default : Value)) (Array.range 0)) = #[] from by simp]
  ·refine R.own (by simp [Env.name, Env.lay]; omega) (Nat.le_refl _) (Nat.zero_le _) fun ver wv val htt => ?_
   simp only [Env.name, Env.lay, hnx, if_true, Option.some.injEq, Prod.mk.injEq] at htt
   obtain ⟨rfl, rfl, rfl⟩ := htt
   exact ⟨Nat.le_refl _, fun _ => ⟨_, Nat.le_refl _, rfl⟩⟩
end
end Go.AB
namespace Go.AB
open Go Go.RowKit
open Go.AB.Enc (cells)
variable {ρ : Option Nat}
section
variable {P : Program} {Q : Exit → St → Prop} {st : St}
end
section
variable {P : Program} {o : Oper} {st : St} {K : St → Prop}
end
end Go.AB
namespace Go.AB
open Go Go.RowKit
/-- What stands in a slot is known less well. -/
theorem vz {ρ : Option Nat} {P : Program} {Q : Exit → St → Prop} {st : St} {x : Code} (i : Nat) {c : C} (c' : C) (h0 : st.at i = c) (hw : Wk c c') (h : AW ρ P x Q { st with r := (i, c') :: st.r }) : AW ρ P x Q st := by
 intro E w a hs
 have hp := hs.at i
 rw [h0] at hp
 refine h E w a ⟨hs.d, hs.sz, fun j v hj => ?_, hs.g⟩
 simp only [dr]
 cases hb : Nat.beq i j
 ·exact hs.t j v hj
 ·have hij := Nat.eq_of_beq_eq_true hb
  subst hij
  have hv : a.tmps.getD i undef = v := by rw [Array.getD_eq_getD_getElem?, hj]; rfl
  rw [hv] at hp
  exact hw.2 _ _ _ hp
end Go.AB
namespace Go.AB
open Go Go.RowKit
open Go.AB.Enc (cells)
open Go.PB (ba ai PlaceD bh bj bi bu am ah cy bq dd dj)
theorem udj {l : List Int} {k : Nat} {z : Int} (h : l[k]? = some z) : (di l)[k]? = some (.v (.int .i64 z)) := by
 have e : di l = l.map fun y => .v (.int .i64 y) := by
  clear h
  induction l with
  | nil => rfl
  | cons y l ih =>
   have h1 : di (y :: l) = cells y ++ di l := by simp [di]
   rw [h1, ih]; rfl
 rw [e, List.getElem?_map, h]; rfl
end Go.AB
namespace Go.Proofs.YtbbdginipiljdaaGreatDoor
set_option maxRecDepth 10000
open Go.RowKit Go.AB
open Go.AB.Enc (cells)
open Go.PB (ba ai PlaceD bh bj bi bu am ah cy bq dd dj)
theorem xc {p : ah} (h : ei p) {j : Nat} {x : am} (hx : p.pages[j]? = some x) {k : Nat} (hk : k < (dt p x).length) : ∃ zn : Nat, (dt p x)[k]? = some (zn : Int) ∧ zn < cj p := by
 have hp := pageB_true.1 (h.page j x hx)
 have h1 := hp.fst
 have h2 := hp.snd
 obtain ⟨z, hz⟩ : ∃ z, (dt p x)[k]? = some z := ⟨_, List.getElem?_eq_getElem hk⟩
 have hm := List.mem_of_getElem? hz
 have hb : 0 ≤ z ∧ z < (cj p : Int) := by
  unfold dt at hm
  unfold cj
  rw [List.mem_append] at hm
  rcases hm with hm | hm
  ·by_cases q : 0 ≤ x.fst
   ·rw [decide_eq_true q, cond_true, List.mem_singleton] at hm; omega
   rw [decide_eq_false q] at hm; cases hm
  by_cases q : 0 ≤ x.snd
  ·rw [decide_eq_true q, cond_true, List.mem_singleton] at hm; omega
  rw [decide_eq_false q] at hm; cases hm
 exact ⟨z.toNat, by rw [hz]; congr 1; omega, by omega⟩
end Go.Proofs.YtbbdginipiljdaaGreatDoor
