/-
  What the walks through the program rest on: values, states, steps, calls (PaFlow, PbData, PcWorst, PdPlain, PeSets, PfPlain, PgSides, PhApart, PiWhy, PjWhy, PsExamples, PpAdd, PlTruth, PqRest, AbTwin, AbCut, RaStd, OpenE, AbRem, AbBits, QaRef, QbRef, QcRef, RbSides, QdRef, QeRef, KxBefore, QfRef, QgRef, QhRef, QiRef, QjRef, QkRef, PmMore, QlPlain, AbZero, AbGrow, AbCutN, QmRef, RhProves, AbInv, AbMixD, AbInvD).
-/
import Derived.Lib.Hide
import Derived.Test.YtbbdginipiljdaaGreatDoorPartB
import Derived.Shelf.SlicesE.DeleteFunc
import Derived.Deep.Slices
import Derived.Lib.SmallJoins
import Derived.Carry
import Derived.ProofKit
import Derived.OpenShut
namespace Go.AB
/-- a sum -/
def sm : Nat → (Nat → Int) → Int
 | 0, _ => 0
 | n + 1, g => sm n g + g n
theorem mu : ∀ {n : Nat} {g h : Nat → Int}, (∀ i, i < n → g i ≤ h i) → sm n g ≤ sm n h
 | 0, _, _, _ => Int.le_refl _
 | n + 1, g, h, H => by
  have h1 := mu (n := n) fun i hi => H i (by omega)
  have h2 := H n (by omega)
  simp only [sm]; omega
theorem gl : ∀ {n : Nat} {g h : Nat → Int}, (∀ i, i < n → g i = h i) → sm n g = sm n h
 | 0, _, _, _ => rfl
 | n + 1, g, h, H => by
  have h1 := gl (n := n) fun i hi => H i (by omega)
  have h2 := H n (by omega)
  simp only [sm]; omega
theorem ox : ∀ (n : Nat) (g h : Nat → Int), sm n (fun i => g i + h i) = sm n g + sm n h
 | 0, _, _ => rfl
 | n + 1, g, h => by have := ox n g h; simp only [sm]; omega
theorem nl : ∀ (n : Nat) (g h : Nat → Int), sm n (fun i => g i - h i) = sm n g - sm n h
 | 0, _, _ => rfl
 | n + 1, g, h => by have := nl n g h; simp only [sm]; omega
theorem lj : ∀ n : Nat, sm n (fun _ => 0) = 0
 | 0 => rfl
 | n + 1 => by have := lj n; simp only [sm]; omega
theorem ubd {n : Nat} {g : Nat → Int} (H : ∀ i, i < n → 0 ≤ g i) : 0 ≤ sm n g := by
 have := mu (g := fun _ => 0) H
 rwa [lj] at this
theorem ms : ∀ {n k : Nat} (_ : k < n) (v : Int), sm n (fun i => bif decide (i = k) then v else 0) = v
 | 0, _, h, _ => absurd h (Nat.not_lt_zero _)
 | n + 1, k, h, v => by
  simp only [sm]
  by_cases e : n = k
  ·subst e
   rw [gl (h := fun _ => 0) (fun i hi => by rw [decide_eq_false (by omega)]; rfl), lj, decide_eq_true rfl]
   simp
  ·rw [ms (n := n) (by omega) v, decide_eq_false e]
   simp
theorem xv : ∀ (n m : Nat) (g : Nat → Nat → Int), sm n (fun i => sm m (g i)) = sm m (fun j => sm n fun i => g i j)
 | 0, m, g => by simp only [sm]; exact (lj m).symm
 | n + 1, m, g => by
  have := xv n m g
  simp only [sm]
  rw [ox, this]
theorem ubc {n k : Nat} {g : Nat → Int} (hk : k < n) (H : ∀ i, i < n → 0 ≤ g i) : g k ≤ sm n g := by
 have h1 := mu (n := n) (g := fun i => bif decide (i = k) then g k else 0) (h := g) fun i hi => by
  by_cases e : i = k
  ·subst e; simp
  ·rw [decide_eq_false e]; exact H i hi
 rwa [ms hk] at h1

/-- pages, each with a first and a second reader, or one of them, or none -/
structure Net where
 nF : Nat
 nr : Nat
 np : Nat
 fr : Nat → Option Nat
 sc : Nat → Option Nat
structure Net.Ok (N : Net) : Prop where
 le : N.nF ≤ N.nr
 fr : ∀ j i, N.fr j = some i → i < N.nF
 sc : ∀ j i, N.sc j = some i → N.nF ≤ i ∧ i < N.nr
def ob (S : Nat → Bool) : Option Nat → Bool
 | none => false
 | some i => S i
def Net.hit (N : Net) (S : Nat → Bool) (j : Nat) : Bool := ob S (N.fr j) || ob S (N.sc j)
/-- who reads a page -/
def Net.by (N : Net) (j i : Nat) : Bool := decide (N.fr j = some i) || decide (N.sc j = some i)
/-- what a set of readers proves -/
def Net.f (N : Net) (R C : Nat → Int) (S : Nat → Bool) : Int := sm N.nr (fun i => bif S i then R i else 0) + sm N.np (fun j => bif N.hit S j then 0 else C j)
/-- what may remain -/
structure Net.Feas (N : Net) (R C y : Nat → Int) : Prop where
 page : ∀ j, j < N.np → 0 ≤ y j ∧ y j ≤ C j
 rd : ∀ i, i < N.nr → sm N.np (fun j => bif N.by j i then y j else 0) ≤ R i
section
variable {N : Net} {R C : Nat → Int}
theorem Net.Ok.by_lt (h : N.Ok) {j i : Nat} (hb : N.by j i = true) : i < N.nr := by
 simp only [Net.by, Bool.or_eq_true, decide_eq_true_eq] at hb
 rcases hb with e | e
 ·have := h.fr j i e; have := h.le; omega
 ·exact (h.sc j i e).2
theorem Net.hit_iff {S : Nat → Bool} {j : Nat} : N.hit S j = true ↔ ∃ i, N.by j i = true ∧ S i = true := by
 unfold Net.hit Net.by
 constructor
 ·intro h
  rw [Bool.or_eq_true] at h
  rcases h with h | h
  ·cases e : N.fr j with
   | none => rw [e] at h; cases h
   | some i => rw [e] at h; exact ⟨i, by simp, h⟩
  ·cases e : N.sc j with
   | none => rw [e] at h; cases h
   | some i => rw [e] at h; exact ⟨i, by simp, h⟩
 ·rintro ⟨i, h1, h2⟩
  simp only [Bool.or_eq_true, decide_eq_true_eq] at h1 ⊢
  rcases h1 with e | e
  ·rw [e]; exact .inl h2
  ·rw [e]; exact .inr h2
theorem Net.f_congr (hN : N.Ok) {S S' : Nat → Bool} (h : ∀ i, i < N.nr → S i = S' i) : N.f R C S = N.f R C S' := by
 have h2 : ∀ j, N.hit S j = N.hit S' j := fun j => by
  rw [Bool.eq_iff_iff, Net.hit_iff, Net.hit_iff]
  exact ⟨fun ⟨i, q1, q2⟩ => ⟨i, q1, (h i (hN.by_lt q1)) ▸ q2⟩, fun ⟨i, q1, q2⟩ => ⟨i, q1, (h i (hN.by_lt q1)).symm ▸ q2⟩⟩
 have e1 : sm N.nr (fun i => bif S i then R i else 0) = sm N.nr (fun i => bif S' i then R i else 0) := gl fun i hi => by rw [h i hi]
 have e2 : sm N.np (fun j => bif N.hit S j then 0 else C j) = sm N.np (fun j => bif N.hit S' j then 0 else C j) := gl fun j _ => by rw [h2 j]
 unfold Net.f
 rw [e1, e2]
/-- no more remains than any readers prove -/
theorem Net.Feas.le {y : Nat → Int} (hN : N.Ok) (h : N.Feas R C y) (S : Nat → Bool) : sm N.np y ≤ N.f R C S := by
 have h1 : sm N.np (fun j => bif N.hit S j then y j else 0) ≤ sm N.nr (fun i => bif S i then R i else 0) := by
  have h2 : sm N.nr (fun i => sm N.np fun j => bif S i then (bif N.by j i then y j else 0) else 0) ≤ sm N.nr (fun i => bif S i then R i else 0) := mu fun i hi => by
   cases hS : S i
   ·simp only [cond_false, lj]; exact Int.le_refl _
   ·simp only [cond_true]; exact h.rd i hi
  refine Int.le_trans ?_ h2
  rw [xv]
  refine mu fun j hj => ?_
  have hy := (h.page j hj).1
  have hnn : ∀ i, i < N.nr → 0 ≤ (bif S i then (bif N.by j i then y j else 0) else 0) := fun i _ => by
   cases S i <;> cases N.by j i <;> simp [hy]
  cases hh : N.hit S j
  ·exact ubd hnn
  ·obtain ⟨i, q1, q2⟩ := Net.hit_iff.1 hh
   have := ubc (hN.by_lt q1) hnn
   simpa [q1, q2] using this
 have h3 : sm N.np (fun j => bif N.hit S j then 0 else y j) ≤ sm N.np (fun j => bif N.hit S j then 0 else C j) := mu fun j hj => by
  cases N.hit S j
  ·exact (h.page j hj).2
  ·exact Int.le_refl _
 have h4 : sm N.np y = sm N.np (fun j => bif N.hit S j then y j else 0) + sm N.np (fun j => bif N.hit S j then 0 else y j) := by
  rw [← ox]
  exact gl fun j _ => by cases N.hit S j <;> simp
 unfold Net.f
 omega
/-- two sets of readers, crossed -/
def me (nF : Nat) (S T : Nat → Bool) (i : Nat) : Bool := bif decide (i < nF) then S i || T i else S i && T i
def mc (nF : Nat) (S T : Nat → Bool) (i : Nat) : Bool := bif decide (i < nF) then S i && T i else S i || T i
theorem Net.cross (hN : N.Ok) (hC : ∀ j, j < N.np → 0 ≤ C j) (S T : Nat → Bool) : N.f R C (me N.nF S T) + N.f R C (mc N.nF S T) ≤ N.f R C S + N.f R C T := by
 have h1 : sm N.nr (fun i => bif me N.nF S T i then R i else 0) + sm N.nr (fun i => bif mc N.nF S T i then R i else 0) = sm N.nr (fun i => bif S i then R i else 0) + sm N.nr (fun i => bif T i then R i else 0) := by
  rw [← ox, ← ox]
  refine gl fun i _ => ?_
  unfold me mc
  cases decide (i < N.nF) <;> cases S i <;> cases T i <;> simp
 have h2 : sm N.np (fun j => bif N.hit (me N.nF S T) j then 0 else C j) + sm N.np (fun j => bif N.hit (mc N.nF S T) j then 0 else C j) ≤ sm N.np (fun j => bif N.hit S j then 0 else C j) + sm N.np (fun j => bif N.hit T j then 0 else C j) := by
  rw [← ox, ← ox]
  refine mu fun j hj => ?_
  have hc := hC j hj
  have e1 : ∀ U V : Nat → Bool, ob (me N.nF U V) (N.fr j) = (ob U (N.fr j) || ob V (N.fr j)) := fun U V => by
   cases e : N.fr j with
   | none => rfl
   | some i => simp only [ob, me, decide_eq_true (hN.fr j i e), cond_true]
  have e2 : ∀ U V : Nat → Bool, ob (mc N.nF U V) (N.fr j) = (ob U (N.fr j) && ob V (N.fr j)) := fun U V => by
   cases e : N.fr j with
   | none => rfl
   | some i => simp only [ob, mc, decide_eq_true (hN.fr j i e), cond_true]
  have e3 : ∀ U V : Nat → Bool, ob (me N.nF U V) (N.sc j) = (ob U (N.sc j) && ob V (N.sc j)) := fun U V => by
   cases e : N.sc j with
   | none => rfl
   | some i => have := hN.sc j i e; simp only [ob, me, decide_eq_false (show ¬ i < N.nF by omega), cond_false]
  have e4 : ∀ U V : Nat → Bool, ob (mc N.nF U V) (N.sc j) = (ob U (N.sc j) || ob V (N.sc j)) := fun U V => by
   cases e : N.sc j with
   | none => rfl
   | some i => have := hN.sc j i e; simp only [ob, mc, decide_eq_false (show ¬ i < N.nF by omega), cond_false]
  simp only [Net.hit, e1, e2, e3, e4]
  cases ob S (N.fr j) <;> cases ob T (N.fr j) <;> cases ob S (N.sc j) <;> cases ob T (N.sc j) <;> simp <;> omega
 unfold Net.f
 omega
/-- so much less for the readers of a page, and nothing more on it -/
def Net.lessR (N : Net) (R : Nat → Int) (j : Nat) (n : Int) (i : Nat) : Int := bif N.by j i then R i - n else R i
def dq (C : Nat → Int) (j k : Nat) : Int := bif decide (k = j) then 0 else C k
def cnt (S : Nat → Bool) (o : Option Nat) (n : Int) : Int := bif ob S o then n else 0
theorem Net.f_less (hN : N.Ok) {j : Nat} (hj : j < N.np) (n : Int) (S : Nat → Bool) : N.f (N.lessR R j n) (dq C j) S = N.f R C S - cnt S (N.fr j) n - cnt S (N.sc j) n - (bif N.hit S j then 0 else C j) := by
 have h1 : sm N.np (fun k => bif N.hit S k then 0 else dq C j k) = sm N.np (fun k => bif N.hit S k then 0 else C k) - (bif N.hit S j then 0 else C j) := by
  have := ms hj (bif N.hit S j then 0 else C j)
  rw [← this, ← nl]
  refine gl fun k _ => ?_
  by_cases e : k = j
  ·subst e; simp [dq]
  ·simp [dq, e]
 have h2 : ∀ o : Option Nat, (∀ i, o = some i → i < N.nr) → sm N.nr (fun i => bif decide (o = some i) then (bif S i then n else 0) else 0) = cnt S o n := fun o ho => by
  cases o with
  | none => simp only [cnt, ob, cond_false]; rw [gl (h := fun _ => 0) (fun i _ => by simp), lj]
  | some k =>
   have := ms (ho k rfl) (bif S k then n else 0)
   rw [gl (h := fun i => bif decide (i = k) then (bif S k then n else 0) else 0)]
   ·exact this
   ·intro i _
    by_cases e : i = k
    ·subst e; simp
    ·simp [e, Ne.symm e]
 have h3 : sm N.nr (fun i => bif S i then N.lessR R j n i else 0) = sm N.nr (fun i => bif S i then R i else 0) - cnt S (N.fr j) n - cnt S (N.sc j) n := by
  rw [← h2 (N.fr j) (fun i e => by have := hN.fr j i e; have := hN.le; omega), ← h2 (N.sc j) (fun i e => (hN.sc j i e).2), ← nl, ← nl]
  refine gl fun i _ => ?_
  unfold Net.lessR Net.by
  have hx : ¬ (N.fr j = some i ∧ N.sc j = some i) := fun ⟨q1, q2⟩ => by have := hN.fr j i q1; have := (hN.sc j i q2).1; omega
  by_cases q1 : N.fr j = some i
  ·have q2 : ¬ N.sc j = some i := fun q2 => hx ⟨q1, q2⟩
   cases S i <;> simp [q1, q2]
  ·by_cases q2 : N.sc j = some i
   ·cases S i <;> simp [q1, q2]
   ·cases S i <;> simp [q1, q2]
 unfold Net.f
 rw [h1, h3]
 omega
/-- the least of some numbers, as it is looked for -/
def lu (g : Nat → Int) : Nat → Int
 | 0 => g 0
 | k + 1 => min (lu g k) (g k)
theorem uc8 {g : Nat → Int} : ∀ {k s : Nat}, s < k ∨ s = 0 → lu g k ≤ g s
 | 0, s, h => by
  obtain rfl : s = 0 := by omega
  exact Int.le_refl _
 | k + 1, s, h => by
  by_cases e : s = k
  ·subst e; exact Int.min_le_right _ _
  ·have := uc8 (g := g) (k := k) (s := s) (by omega)
   exact Int.le_trans (Int.min_le_left _ _) this
theorem yy {g : Nat → Int} : ∀ k : Nat, ∃ s, (s < k ∨ s = 0) ∧ lu g k = g s
 | 0 => ⟨0, .inr rfl, rfl⟩
 | k + 1 => by
  obtain ⟨s, h1, h2⟩ := yy (g := g) k
  by_cases e : lu g k ≤ g k
  ·exact ⟨s, by omega, by rw [lu, Int.min_eq_left e, h2]⟩
  ·exact ⟨k, by omega, by rw [lu, Int.min_eq_right (by omega)]⟩
/-- a set as a number -/
def i5 (S : Nat → Bool) : Nat → Nat
 | 0 => 0
 | n + 1 => i5 S n ||| (bif S n then 2 ^ n else 0)
theorem ru (S : Nat → Bool) : ∀ n, i5 S n < 2 ^ n
 | 0 => by simp [i5]
 | n + 1 => by
  have h := ru S n
  have h2 : 2 ^ n < 2 ^ (n + 1) := Nat.pow_lt_pow_right (by omega) (by omega)
  unfold i5
  refine Nat.or_lt_two_pow (by omega) ?_
  cases S n
  ·exact Nat.two_pow_pos _
  ·exact h2
theorem rx (S : Nat → Bool) : ∀ n i, (i5 S n).testBit i = (decide (i < n) && S i)
 | 0, i => by simp [i5]
 | n + 1, i => by
  have h := rx S n i
  unfold i5
  rw [Nat.testBit_or, h]
  by_cases e : i = n
  ·subst e
   cases hS : S i <;> simp
  ·have e2 : decide (i < n + 1) = decide (i < n) := by rw [decide_eq_decide]; omega
   rw [e2]
   cases hS : S n
   ·simp
   ·simp only [cond_true, Nat.testBit_two_pow]
    rw [decide_eq_false (Ne.symm e), Bool.or_false]
def Net.most (N : Net) (R C : Nat → Int) : Int := lu (fun s => N.f R C fun i => s.testBit i) (2 ^ N.nr)
theorem Net.most_le (hN : N.Ok) (S : Nat → Bool) : N.most R C ≤ N.f R C S := by
 have h := uc8 (g := fun s => N.f R C fun i => s.testBit i) (k := 2 ^ N.nr) (s := i5 S N.nr) (.inl (ru S _))
 refine Int.le_trans h (Int.le_of_eq (Net.f_congr hN fun i hi => ?_))
 rw [rx, decide_eq_true hi, Bool.true_and]
theorem Net.most_get (N : Net) (R C : Nat → Int) : ∃ S : Nat → Bool, N.most R C = N.f R C S := by
 obtain ⟨s, _, h⟩ := yy (g := fun s => N.f R C fun i => s.testBit i) (2 ^ N.nr)
 exact ⟨fun i => s.testBit i, h⟩
def n2 (n : Int) (R : Nat → Int) : Option Nat → Int
 | none => n
 | some i => min n (R i)
/-- the most on one page -/
def Net.alone (N : Net) (R C : Nat → Int) (j : Nat) : Int := n2 (n2 (C j) R (N.fr j)) R (N.sc j)
theorem uc7 {n m : Int} {o : Option Nat} : m ≤ n2 n R o ↔ m ≤ n ∧ ∀ i, o = some i → m ≤ R i := by
 cases o with
 | none => simp [n2]
 | some k => simp only [n2, Int.le_min, Option.some.injEq, forall_eq']
theorem Net.le_alone {j : Nat} {m : Int} : m ≤ N.alone R C j ↔ m ≤ C j ∧ ∀ i, N.by j i = true → m ≤ R i := by
 unfold Net.alone Net.by
 rw [uc7, uc7]
 simp only [Bool.or_eq_true, decide_eq_true_eq]
 exact ⟨fun ⟨⟨h1, h2⟩, h3⟩ => ⟨h1, fun i hi => hi.elim (h2 i) (h3 i)⟩, fun ⟨h1, h2⟩ => ⟨⟨h1, fun i hi => h2 i (.inl hi)⟩, fun i hi => h2 i (.inr hi)⟩⟩
/-- what remains, and so much less of it -/
theorem Net.less_le (hN : N.Ok) {j : Nat} (hj : j < N.np) {n : Int} (h0 : 0 ≤ n) (hn : n ≤ C j) : n + N.most (N.lessR R j n) (dq C j) ≤ N.most R C := by
 obtain ⟨S, hS⟩ := N.most_get R C
 have h1 := Net.most_le (R := N.lessR R j n) (C := dq C j) hN S
 rw [Net.f_less hN hj] at h1
 rw [hS]
 cases e : N.hit S j
 ·rw [e] at h1
  have e2 := e
  unfold Net.hit at e2
  rw [Bool.or_eq_false_iff] at e2
  simp only [cnt, e2.1, e2.2, cond_false] at h1
  omega
 ·rw [e] at h1
  unfold Net.hit at e
  rw [Bool.or_eq_true] at e
  unfold cnt at h1
  rcases e with q | q
  ·rw [q] at h1
   cases e2 : ob S (N.sc j) <;> rw [e2] at h1 <;> simp only [cond_true, cond_false] at h1 <;> omega
  ·rw [q] at h1
   cases e2 : ob S (N.fr j) <;> rw [e2] at h1 <;> simp only [cond_true, cond_false] at h1 <;> omega
/-- of each page there is a worst number of errors -/
theorem Net.greedy (hN : N.Ok) (hR : ∀ i, i < N.nr → 0 ≤ R i) (hC : ∀ j, j < N.np → 0 ≤ C j) {j : Nat} (hj : j < N.np) : ∃ n : Int, 0 ≤ n ∧ n ≤ N.alone R C j ∧ N.most R C ≤ n + N.most (N.lessR R j n) (dq C j) := by
 -- the largest number that every set allows
 have hcj := hC j hj
 have hal : 0 ≤ N.alone R C j := Net.le_alone.2 ⟨hcj, fun i hi => hR i (hN.by_lt hi)⟩
 have key : ∀ n : Int, 0 ≤ n → n ≤ N.alone R C j → (∀ S, ob S (N.fr j) = true → ob S (N.sc j) = true → N.most R C ≤ N.f R C S - n) → (n = N.alone R C j ∨ ∃ S, ob S (N.fr j) = true ∧ ob S (N.sc j) = true ∧ N.f R C S - n = N.most R C) → N.most R C ≤ n + N.most (N.lessR R j n) (dq C j) := by
  intro n h0 h1 h2 h3
  obtain ⟨S, hS⟩ := N.most_get (N.lessR R j n) (dq C j)
  rw [hS, Net.f_less hN hj]
  have hm := Net.most_le (R := R) (C := C) hN S
  cases e1 : ob S (N.fr j) <;> cases e2 : ob S (N.sc j)
  ·have e : N.hit S j = false := by simp [Net.hit, e1, e2]
   simp only [cnt, e1, e2, e, cond_false]
   -- no reader of the page is in the set
   rcases h3 with h3 | ⟨T, t1, t2, t3⟩
   ·-- as1 much as1 can be: the page itself, or a reader
    by_cases hc : n = C j
    ·omega
    ·have h4 := (Net.le_alone.1 h1).1
     obtain ⟨i, hi, hri⟩ : ∃ i, N.by j i = true ∧ R i = n := by
      refine Classical.byContradiction fun hno => ?_
      have : n + 1 ≤ N.alone R C j := Net.le_alone.2 ⟨by omega, fun i hi => by
       have q1 := (Net.le_alone.1 h1).2 i hi
       have q2 : R i ≠ n := fun q => hno ⟨i, hi, q⟩
       omega⟩
      omega
     -- the set with that reader
     have h5 := Net.most_le (R := R) (C := C) hN (fun k => S k || decide (k = i))
     have h6 : N.f R C (fun k => S k || decide (k = i)) ≤ N.f R C S + R i - C j := by
      have g1 : sm N.nr (fun k => bif (S k || decide (k = i)) then R k else 0) ≤ sm N.nr (fun k => bif S k then R k else 0) + R i := by
       have := ms (hN.by_lt hi) (R i)
       rw [← this, ← ox]
       refine mu fun k hk => ?_
       have := hR k hk
       by_cases q : k = i
       ·subst q; cases S k <;> simp <;> omega
       ·cases S k <;> simp [q]
      have g2 : sm N.np (fun k => bif N.hit (fun k => S k || decide (k = i)) k then 0 else C k) ≤ sm N.np (fun k => bif N.hit S k then 0 else C k) - C j := by
       have := ms hj (C j)
       rw [← this, ← nl]
       refine mu fun k hk => ?_
       have hck := hC k hk
       have mono : N.hit S k = true → N.hit (fun k => S k || decide (k = i)) k = true := fun q => by
        obtain ⟨x, x1, x2⟩ := Net.hit_iff.1 q
        exact Net.hit_iff.2 ⟨x, x1, by simp [x2]⟩
       by_cases q : k = j
       ·subst q
        rw [show N.hit (fun k => S k || decide (k = i)) k = true from Net.hit_iff.2 ⟨i, hi, by simp⟩, e]
        simp
       ·rw [decide_eq_false q]
        cases q1 : N.hit S k
        ·cases N.hit (fun k => S k || decide (k = i)) k <;> simp <;> omega
        ·rw [mono q1]; simp
      unfold Net.f
      dsimp only
      omega
     omega
   ·-- crossed with a set that has both
    have hx := Net.cross (R := R) (C := dq C j) hN (fun k hk => by unfold dq; cases decide (k = j) <;> simp; exact hC k hk) S T
    have hsub : ∀ U : Nat → Bool, N.f R (dq C j) U = N.f R C U - (bif N.hit U j then 0 else C j) := fun U => by
     have := Net.f_less (R := R) (C := C) hN hj 0 U
     have e0 : N.lessR R j 0 = R := by funext i; unfold Net.lessR; cases N.by j i <;> simp
     rw [e0] at this
     rw [this]
     unfold cnt
     cases ob U (N.fr j) <;> cases ob U (N.sc j) <;> simp
    rw [hsub, hsub, hsub, hsub, e, show N.hit T j = true by simp [Net.hit, t1]] at hx
    obtain ⟨a, ha⟩ : ∃ a, N.fr j = some a := by cases q : N.fr j with
     | none => rw [q] at t1; cases t1
     | some a => exact ⟨a, rfl⟩
    obtain ⟨b, hb⟩ : ∃ b, N.sc j = some b := by cases q : N.sc j with
     | none => rw [q] at t2; cases t2
     | some b => exact ⟨b, rfl⟩
    rw [ha] at t1
    rw [hb] at t2
    have hA : N.hit (me N.nF S T) j = true := by
     simp only [Net.hit, ha, ob, me, decide_eq_true (hN.fr j a ha), cond_true]
     rw [show T a = true from t1]; simp
    have hB : N.hit (mc N.nF S T) j = true := by
     have := hN.sc j b hb
     simp only [Net.hit, hb, ob, mc, decide_eq_false (show ¬ b < N.nF by omega), cond_false]
     rw [show T b = true from t2]; simp
    rw [hA, hB] at hx
    simp only [cond_true, cond_false] at hx
    have q1 := Net.most_le (R := R) (C := C) hN (me N.nF S T)
    have q2 := Net.most_le (R := R) (C := C) hN (mc N.nF S T)
    omega
  ·have e : N.hit S j = true := by simp [Net.hit, e2]
   simp only [cnt, e1, e2, e, cond_false, cond_true]
   omega
  ·have e : N.hit S j = true := by simp [Net.hit, e1]
   simp only [cnt, e1, e2, e, cond_false, cond_true]
   omega
  ·have e : N.hit S j = true := by simp [Net.hit, e1]
   simp only [cnt, e1, e2, e, cond_true]
   have := h2 S e1 e2
   omega
 by_cases hb : ∀ S, ob S (N.fr j) = true → ob S (N.sc j) = true → N.most R C ≤ N.f R C S - N.alone R C j
 ·exact ⟨_, hal, Int.le_refl _, key _ hal (Int.le_refl _) hb (.inl rfl)⟩
 ·-- the qc of those that have both
  have : ∃ m : Int, (∃ S, ob S (N.fr j) = true ∧ ob S (N.sc j) = true ∧ N.f R C S = m) ∧ ∀ S, ob S (N.fr j) = true → ob S (N.sc j) = true → m ≤ N.f R C S := by
   obtain ⟨S0, s1, s2⟩ : ∃ S, ob S (N.fr j) = true ∧ ob S (N.sc j) = true := by
    refine Classical.byContradiction fun hno => hb fun S h1 h2 => absurd ⟨S, h1, h2⟩ hno
   have hlow : ∀ S, ob S (N.fr j) = true → ob S (N.sc j) = true → N.most R C ≤ N.f R C S := fun S _ _ => Net.most_le hN S
   generalize hd : (N.f R C S0 - N.most R C).toNat = d
   induction d using Nat.strongRecOn generalizing S0 with
   | _ d ih =>
    by_cases hmin : ∀ S, ob S (N.fr j) = true → ob S (N.sc j) = true → N.f R C S0 ≤ N.f R C S
    ·exact ⟨_, ⟨S0, s1, s2, rfl⟩, hmin⟩
    ·obtain ⟨S1, hS1⟩ := Classical.not_forall.1 hmin
     obtain ⟨t1, hS2⟩ := Classical.not_imp.1 hS1
     obtain ⟨t2, hS3⟩ := Classical.not_imp.1 hS2
     have hl1 := hlow S1 t1 t2
     have hl0 := hlow S0 s1 s2
     exact ih _ (by omega) S1 t1 t2 rfl
  obtain ⟨m, ⟨S, q1, q2, q3⟩, q4⟩ := this
  have hm := Net.most_le (R := R) (C := C) hN S
  have hlt : m - N.most R C < N.alone R C j := by
   refine Classical.byContradiction fun hno => hb fun T t1 t2 => ?_
   have := q4 T t1 t2
   omega
  exact ⟨m - N.most R C, by omega, by omega, key _ (by omega) (by omega) (fun T t1 t2 => by have := q4 T t1 t2; omega) (.inr ⟨S, q1, q2, by omega⟩)⟩
end
end Go.AB
namespace Go.PB
structure bn where
 id : Int
 miss : Int
 deriving DecidableEq
structure aq where
 fr : Int
 to : Int
 fst : Int
 snd : Int
 found : List PlaceD
 well : List PlaceD
 deriving DecidableEq
structure af where
 text : ai
 firsts : List bn
 seconds : List bn
 pages : List aq
 deriving DecidableEq
/-- proofs at work -/
structure cj where
 p : af
 words : List Int
 all : List (List PlaceD)
 both : List (List PlaceD)
structure bj where
 lo : Int
 hi : Int
 deriving DecidableEq
end Go.PB
namespace Go.AB
open Go Go.RowKit
open Go.AB.Enc (cells)
open Go.PB (aw ai PlaceD ba bf bd bn aq af cj bj)
instance : Enc bn := ⟨fun x => [.v (.int .i64 x.id), .v (.int .i64 x.miss)], 2, fun _ => rfl, fun m x c h => by
 simp only [List.mem_cons, List.not_mem_nil, or_false] at h; rcases h with rfl | rfl <;> exact .v, fun x c h => by
 simp only [List.mem_cons, List.not_mem_nil, or_false] at h; rcases h with rfl | rfl <;> rfl⟩
instance : Enc bj := ⟨fun x => [.v (.int .i64 x.lo), .v (.int .i64 x.hi)], 2, fun _ => rfl, fun m x c h => by
 simp only [List.mem_cons, List.not_mem_nil, or_false] at h; rcases h with rfl | rfl <;> exact .v, fun x c h => by
 simp only [List.mem_cons, List.not_mem_nil, or_false] at h; rcases h with rfl | rfl <;> rfl⟩
instance : Enc aq := ⟨fun x => [.v (.int .i64 x.fr), .v (.int .i64 x.to), .v (.int .i64 x.fst), .v (.int .i64 x.snd), lst x.found, lst x.well], 6, fun _ => rfl, fun m x c h => by
 simp only [List.mem_cons, List.not_mem_nil, or_false] at h
 rcases h with rfl | rfl | rfl | rfl | rfl | rfl
 ·exact .v
 ·exact .v
 ·exact .v
 ·exact .v
 ·exact br m _
 ·exact br m _, fun x c h => by
 simp only [List.mem_cons, List.not_mem_nil, or_false] at h; rcases h with rfl | rfl | rfl | rfl | rfl | rfl <;> rfl⟩
instance : Enc af := ⟨fun x => [lst x.text, lst x.firsts, lst x.seconds, lst x.pages], 4, fun _ => rfl, fun m x c h => by
 simp only [List.mem_cons, List.not_mem_nil, or_false] at h
 rcases h with rfl | rfl | rfl | rfl
 ·exact br m _
 ·exact br m _
 ·exact br m _
 ·exact br m _, fun x c h => by
 simp only [List.mem_cons, List.not_mem_nil, or_false] at h; rcases h with rfl | rfl | rfl | rfl <;> rfl⟩
/-! ### Lines of a text -/
/-- the number of a chapter's first line -/
def fk (t : ai) (k : Nat) : Nat := ((t.take k).map fun c => c.lines.length).sum
theorem ua9 (t : ai) : fk t 0 = 0 := by simp [fk]
theorem sq {t : ai} {k : Nat} {c : aw} (h : t[k]? = some c) : fk t (k + 1) = fk t k + c.lines.length := by
 unfold fk
 rw [List.take_add_one, h]
 simp
def l8 (t : ai) : Nat := fk t t.length
/-- the number of the line of a place -/
def qb (t : ai) (q : PlaceD) : Int := q.ln + (fk t q.ch.toNat : Int)
def gz (t : ai) (x : aq) (q : PlaceD) : Bool := inB (qb t q) x.fr x.to
/-! ### Valid proofs -/
def mj (a b : PlaceD) : Bool := decide (ey (c4 a) (c4 b) < 0)
/-- a place of a list may stand where it does -/
def ja (t : ai) (x : aq) (l : List PlaceD) (i : Nat) : Bool := match l[i]? with
 | none => true
 | some q => ff t q && gz t x q && (decide (i = 0) || match l[i - 1]? with | none => true | some a => mj a q)
def dn (t : ai) (x : aq) (l : List PlaceD) (n : Nat) : Bool := (List.range n).all (ja t x l)
theorem gr (t : ai) (x : aq) (l : List PlaceD) (n : Nat) : dn t x l (n + 1) = (dn t x l n && ja t x l n) := by
 unfold dn
 rw [List.range_succ, List.all_append]
 simp
def g5 (t : ai) (x : aq) (r : Int) (l : List PlaceD) : Bool := (decide (0 ≤ r) || decide (l = [])) && dn t x l l.length
def ge (r : bn) : Bool := inB r.id 0 9999 && inB r.miss 0 90
def jk (p : af) : Bool := decide (p.firsts.length ≤ 3) && decide (p.seconds.length ≤ 3) && (p.firsts ++ p.seconds).all ge && decide ((p.firsts ++ p.seconds).map (·.id)).Nodup
def ll (p : af) (last : Int) (x : aq) : Bool := decide (last < x.fr) && decide (x.fr ≤ x.to) && decide (x.to < (l8 p.text : Int)) && inB x.fst (-1) ((p.firsts.length : Int) - 1) && g5 p.text x x.fst x.found && inB x.snd (-1) ((p.seconds.length : Int) - 1) && g5 p.text x x.snd x.well
/-- the last line ahead of a page -/
def g8 (l : List aq) : Nat → Int
 | 0 => -1
 | i + 1 => match l[i]? with | some x => x.to | none => -1
def s7 (p : af) (i : Nat) : Bool := match p.pages[i]? with
 | none => true
 | some x => ll p (g8 p.pages i) x
def py (p : af) (n : Nat) : Bool := (List.range n).all (s7 p)
theorem ucc (p : af) (n : Nat) : py p (n + 1) = (py p n && s7 p n) := by
 unfold py
 rw [List.range_succ, List.all_append]
 simp
def fw (p : af) : Bool := jk p && decide (p.pages.length ≤ 8) && py p p.pages.length
def cg (p : af) : Int := bif dp p.text then (bif fw p then 0 else 90) else 10
/-! ### What is found on a page -/
def dm (t : ai) (x : aq) : List PlaceD := (gi t).filter fun q => decide (q ∈ x.found) || decide (q ∈ x.well)
def d7 (t : ai) (x : aq) : List PlaceD := (gi t).filter fun q => decide (q ∈ x.found) && decide (q ∈ x.well)
def el (t : ai) (x : aq) : Nat := ((gi t).filter (gz t x)).length
/-! ### Bounds of readers -/
def d9 (b : Bool) (x : aq) : Int := bif b then x.snd else x.fst
def dc (b : Bool) (x : aq) : List PlaceD := bif b then x.well else x.found
def di (p : af) (b : Bool) : List bn := bif b then p.seconds else p.firsts
def d8 (l : List aq) (g : aq → Nat) : Nat := (l.map g).sum
theorem sn {l : List aq} {k : Nat} {x : aq} {g : aq → Nat} (h : l[k]? = some x) : d8 (l.take (k + 1)) g = d8 (l.take k) g + g x := by
 unfold d8
 rw [List.take_add_one, h]
 simp
def gm (b : Bool) (i : Int) (x : aq) : Nat := bif decide (d9 b x = i) then (dc b x).length else 0
def iq (t : ai) (b : Bool) (i : Int) (x : aq) : Nat := bif decide (d9 b x = i) then (dm t x).length else 0
def jm (p : af) (b : Bool) (i : Nat) : Int := match (di p b)[i]? with | some r => r.miss | none => 0
def cw (p : af) (b : Bool) (i : Nat) : Int := 100 * (d8 p.pages (gm b i) : Int) / (100 - jm p b i)
def k8 (p : af) (b : Bool) (i : Nat) : Int := cw p b i - (d8 p.pages (iq p.text b i) : Int)
/-! ### What may remain -/
def bv (p : af) : Nat := p.firsts.length + p.seconds.length
def ck (p : af) (i : Nat) : Int := bif decide (i < p.firsts.length) then k8 p false i else k8 p true (i - p.firsts.length)
def qk (t : ai) (x : aq) : Int := (el t x : Int) - ((dm t x).length : Int)
def gd (p : af) : Bool := (List.range (bv p)).all fun i => decide (0 ≤ ck p i)
def bi (p : af) : Net where
 nF := p.firsts.length
 nr := bv p
 np := p.pages.length
 fr := fun j => match p.pages[j]? with | some x => (bif decide (0 ≤ x.fst) then some x.fst.toNat else none) | none => none
 sc := fun j => match p.pages[j]? with | some x => (bif decide (0 ≤ x.snd) then some (p.firsts.length + x.snd.toNat) else none) | none => none
end Go.AB
namespace Go.AB
/-- so much on a page is the most of what loses nothing -/
structure Net.Pick (N : Net) (R C : Nat → Int) (j : Nat) (n : Int) : Prop where
 nn : 0 ≤ n
 le : n ≤ N.alone R C j
 ok : N.most R C ≤ n + N.most (N.lessR R j n) (dq C j)
 max : ∀ m, n < m → m ≤ N.alone R C j → ¬ N.most R C ≤ m + N.most (N.lessR R j m) (dq C j)
section
variable {N : Net} {R C : Nat → Int}
theorem Net.Pick.uniq {j : Nat} {n m : Int} (h : N.Pick R C j n) (k : N.Pick R C j m) : n = m := by
 rcases Int.lt_trichotomy n m with q | q | q
 ·exact absurd k.ok (h.max m q k.le)
 ·exact q
 ·exact absurd h.ok (k.max n q h.le)
theorem Net.pick_ex (hN : N.Ok) (hR : ∀ i, i < N.nr → 0 ≤ R i) (hC : ∀ j, j < N.np → 0 ≤ C j) {j : Nat} (hj : j < N.np) : ∃ n, N.Pick R C j n := by
 obtain ⟨n, h1, h2, h3⟩ := Net.greedy hN hR hC hj
 generalize hd : (N.alone R C j - n).toNat = d
 induction d using Nat.strongRecOn generalizing n with
 | _ d ih =>
  by_cases hmax : ∀ m, n < m → m ≤ N.alone R C j → ¬ N.most R C ≤ m + N.most (N.lessR R j m) (dq C j)
  ·exact ⟨n, h1, h2, h3, hmax⟩
  ·obtain ⟨m, hm⟩ := Classical.not_forall.1 hmax
   obtain ⟨q1, hm⟩ := Classical.not_imp.1 hm
   obtain ⟨q2, hm⟩ := Classical.not_imp.1 hm
   exact ih _ (by omega) m (by omega) q2 (Classical.not_not.1 hm) rfl
open Classical in
noncomputable def Net.pick (N : Net) (R C : Nat → Int) (j : Nat) : Int := if h : ∃ n, N.Pick R C j n then h.choose else 0
theorem Net.pick_spec {j : Nat} (h : ∃ n, N.Pick R C j n) : N.Pick R C j (N.pick R C j) := by
 unfold Net.pick
 rw [dif_pos h]
 exact h.choose_spec
theorem Net.pick_eq {j : Nat} {n : Int} (h : N.Pick R C j n) : N.pick R C j = n := (Net.pick_spec ⟨n, h⟩).uniq h
/-- what may remain ahead of a page, by the worst truth -/
noncomputable def Net.room (N : Net) (R C : Nat → Int) : Nat → (Nat → Int) × (Nat → Int)
 | 0 => (R, C)
 | i + 1 => (N.lessR (N.room R C i).1 i (N.pick (N.room R C i).1 (N.room R C i).2 i), dq (N.room R C i).2 i)
/-- the worst truth -/
noncomputable def Net.worst (N : Net) (R C : Nat → Int) (i : Nat) : Int := N.pick (N.room R C i).1 (N.room R C i).2 i
theorem Net.room_succ (i : Nat) : N.room R C (i + 1) = (N.lessR (N.room R C i).1 i (N.worst R C i), dq (N.room R C i).2 i) := rfl
structure Net.RoomOk (N : Net) (R C : Nat → Int) (i : Nat) : Prop where
 rnn : ∀ r, r < N.nr → 0 ≤ (N.room R C i).1 r
 cnn : ∀ j, j < N.np → 0 ≤ (N.room R C i).2 j
 all : N.most (N.room R C i).1 (N.room R C i).2 = N.most R C - sm i (N.worst R C)
 caps : ∀ j, (N.room R C i).2 j = bif decide (j < i) then 0 else C j
 rds : ∀ r, (N.room R C i).1 r = R r - sm i (fun j => bif N.by j r then N.worst R C j else 0)
theorem Net.room_ok (hN : N.Ok) (hR : ∀ i, i < N.nr → 0 ≤ R i) (hC : ∀ j, j < N.np → 0 ≤ C j) : ∀ i, i ≤ N.np → N.RoomOk R C i
 | 0, _ => ⟨hR, hC, by simp [Net.room, sm], fun j => by simp [Net.room], fun r => by simp [Net.room, sm]⟩
 | i + 1, hi => by
  have h := Net.room_ok hN hR hC i (by omega)
  have hp : N.Pick (N.room R C i).1 (N.room R C i).2 i (N.worst R C i) := Net.pick_spec (Net.pick_ex hN h.rnn h.cnn (by omega))
  have hal := Net.le_alone.1 hp.le
  have hle := Net.less_le (R := (N.room R C i).1) (C := (N.room R C i).2) hN (show i < N.np by omega) hp.nn hal.1
  have hok := hp.ok
  refine ⟨fun r hr => ?_, fun j hj => ?_, ?_, fun j => ?_, fun r => ?_⟩
  ·rw [Net.room_succ]
   show 0 ≤ N.lessR _ i _ r
   unfold Net.lessR
   cases hb : N.by i r
   ·exact h.rnn r hr
   ·have := hal.2 r hb
    simp only [cond_true]; omega
  ·rw [Net.room_succ]
   show 0 ≤ dq _ i j
   unfold dq
   cases decide (j = i)
   ·exact h.cnn j hj
   ·exact Int.le_refl _
  ·rw [Net.room_succ]
   have := h.all
   simp only [sm]
   show N.most (N.lessR _ i _) (dq _ i) = _
   omega
  ·rw [Net.room_succ]
   show dq _ i j = _
   unfold dq
   rw [h.caps j]
   by_cases e : j = i
   ·subst e; simp
   ·rw [decide_eq_false e, cond_false, show decide (j < i + 1) = decide (j < i) by rw [decide_eq_decide]; omega]
  ·rw [Net.room_succ]
   show N.lessR _ i _ r = _
   unfold Net.lessR
   rw [h.rds r]
   simp only [sm]
   cases N.by i r <;> simp <;> omega
theorem Net.worst_pick (hN : N.Ok) (hR : ∀ i, i < N.nr → 0 ≤ R i) (hC : ∀ j, j < N.np → 0 ≤ C j) {i : Nat} (hi : i < N.np) : N.Pick (N.room R C i).1 (N.room R C i).2 i (N.worst R C i) := by
 have h := Net.room_ok hN hR hC i (by omega)
 exact Net.pick_spec (Net.pick_ex hN h.rnn h.cnn hi)
theorem Net.worst_feas (hN : N.Ok) (hR : ∀ i, i < N.nr → 0 ≤ R i) (hC : ∀ j, j < N.np → 0 ≤ C j) : N.Feas R C (N.worst R C) := by
 refine ⟨fun j hj => ?_, fun r hr => ?_⟩
 ·have hp := Net.worst_pick hN hR hC hj
  have h := Net.room_ok hN hR hC j (by omega)
  have := (Net.le_alone.1 hp.le).1
  rw [h.caps j, decide_eq_false (Nat.lt_irrefl _), cond_false] at this
  exact ⟨hp.nn, this⟩
 ·have h := Net.room_ok hN hR hC N.np (Nat.le_refl _)
  have h1 := h.rnn r hr
  rw [h.rds r] at h1
  omega
theorem xx : ∀ {n i : Nat} {g : Nat → Int} (_ : i ≤ n), sm n g = sm i g + sm n (fun j => bif decide (j < i) then 0 else g j)
 | 0, i, g, h => by
  obtain rfl : i = 0 := by omega
  rfl
 | n + 1, i, g, h => by
  by_cases e : i = n + 1
  ·subst e
   rw [gl (n := n + 1) (g := fun j => bif decide (j < n + 1) then 0 else g j) (h := fun _ => 0) (fun j hj => by rw [decide_eq_true hj]; rfl), lj]
   omega
  ·have := xx (n := n) (i := i) (g := g) (by omega)
   simp only [sm]
   rw [decide_eq_false (show ¬ n < i by omega), cond_false]
   omega
/-- what is left of what may remain, behind the first pages -/
theorem Net.feas_room (hN : N.Ok) (hR : ∀ i, i < N.nr → 0 ≤ R i) (hC : ∀ j, j < N.np → 0 ≤ C j) {y : Nat → Int} (hy : N.Feas R C y) {i : Nat} (hi : i ≤ N.np) (he : ∀ j, j < i → y j = N.worst R C j) : N.Feas (N.room R C i).1 (N.room R C i).2 (fun j => bif decide (j < i) then 0 else y j) := by
 have h := Net.room_ok hN hR hC i hi
 refine ⟨fun j hj => ?_, fun r hr => ?_⟩
 ·rw [h.caps j]
  cases decide (j < i)
  ·exact hy.page j hj
  ·exact ⟨Int.le_refl _, Int.le_refl _⟩
 ·have h1 := hy.rd r hr
  rw [xx hi] at h1
  rw [h.rds r]
  have e1 : sm i (fun j => bif N.by j r then y j else 0) = sm i (fun j => bif N.by j r then N.worst R C j else 0) := gl fun j hj => by rw [he j hj]
  have e2 : sm N.np (fun j => bif N.by j r then (bif decide (j < i) then 0 else y j) else 0) = sm N.np (fun j => bif decide (j < i) then 0 else (bif N.by j r then y j else 0)) := gl fun j _ => by
   cases N.by j r <;> cases decide (j < i) <;> rfl
  rw [e2]
  omega
/-- feasible on what is left when a page is taken -/
theorem Net.feas_less {y : Nat → Int} (hy : N.Feas R C y) {j : Nat} (hj : j < N.np) : N.Feas (N.lessR R j (y j)) (dq C j) (dq y j) := by
 refine ⟨fun k hk => ?_, fun r hr => ?_⟩
 ·unfold dq
  cases decide (k = j)
  ·exact hy.page k hk
  ·exact ⟨Int.le_refl _, Int.le_refl _⟩
 ·have h1 := hy.rd r hr
  have e1 : sm N.np (fun k => bif N.by k r then dq y j k else 0) = sm N.np (fun k => bif N.by k r then y k else 0) - (bif N.by j r then y j else 0) := by
   have := ms hj (bif N.by j r then y j else 0)
   rw [← this, ← nl]
   refine gl fun k _ => ?_
   unfold dq
   by_cases e : k = j
   ·subst e; cases N.by k r <;> simp
   ·rw [decide_eq_false e]; cases N.by k r <;> simp
  rw [e1]
  unfold Net.lessR
  cases N.by j r <;> simp only [cond_true, cond_false] <;> omega
theorem Net.feas_alone {y : Nat → Int} (hN : N.Ok) (hy : N.Feas R C y) {j : Nat} (hj : j < N.np) : y j ≤ N.alone R C j := Net.le_alone.2 ⟨(hy.page j hj).2, fun i hi => by
 have h1 := hy.rd i (hN.by_lt hi)
 have h2 := ubc (n := N.np) (k := j) (g := fun k => bif N.by k i then y k else 0) hj fun k hk => by
  cases N.by k i
  ·exact Int.le_refl _
  ·exact (hy.page k hk).1
 rw [hi] at h2
 exact Int.le_trans h2 h1⟩
theorem uhu {y : Nat → Int} {n j : Nat} (hj : j < n) : sm n (dq y j) = sm n y - y j := by
 have := ms hj (y j)
 rw [← this, ← nl]
 refine gl fun k _ => ?_
 unfold dq
 by_cases e : k = j
 ·subst e; simp
 ·rw [decide_eq_false e]; simp
/-- no truth has as much that remains, and more on the first page that differs -/
theorem Net.worst_lex (hN : N.Ok) (hR : ∀ i, i < N.nr → 0 ≤ R i) (hC : ∀ j, j < N.np → 0 ≤ C j) {y : Nat → Int} (hy : N.Feas R C y) (hs : sm N.np y = N.most R C) {i : Nat} (hi : i < N.np) (he : ∀ j, j < i → y j = N.worst R C j) : y i ≤ N.worst R C i := by
 have h := Net.room_ok hN hR hC i (by omega)
 have hp := Net.worst_pick hN hR hC hi
 have hf := Net.feas_room hN hR hC hy (by omega) he
 have hyi : (bif decide (i < i) then 0 else y i) = y i := by simp
 have ha := Net.feas_alone hN hf hi
 have hl := Net.feas_less hf hi
 rw [hyi] at ha hl
 have hm : sm N.np (dq (fun j => bif decide (j < i) then 0 else y j) i) ≤ N.most (N.lessR (N.room R C i).1 i (y i)) (dq (N.room R C i).2 i) := by
  obtain ⟨S, hS⟩ := N.most_get (N.lessR (N.room R C i).1 i (y i)) (dq (N.room R C i).2 i)
  rw [hS]
  exact hl.le hN S
 rw [uhu hi, hyi] at hm
 have h1 := xx (n := N.np) (i := i) (g := y) (by omega)
 have h2 : sm i y = sm i (N.worst R C) := gl he
 have h3 := h.all
 refine Classical.byContradiction fun hno => hp.max (y i) (by omega) ha ?_
 omega
/-- no truth has more that remains -/
theorem Net.feas_most (hN : N.Ok) {y : Nat → Int} (hy : N.Feas R C y) : sm N.np y ≤ N.most R C := by
 obtain ⟨S, hS⟩ := N.most_get R C
 rw [hS]
 exact hy.le hN S
end
end Go.AB
namespace Go.AB
open Go Go.RowKit
open Go.AB.Enc (cells)
open Go.PB (aw ai PlaceD ba bf bd bn aq af cj bj)
theorem uhg (g : aq → Nat) : ∀ l : List aq, ((d8 l g : Nat) : Int) = sm l.length (fun j => match l[j]? with | some x => (g x : Int) | none => 0) := by
 intro l
 have key : ∀ k, k ≤ l.length → ((d8 (l.take k) g : Nat) : Int) = sm k (fun j => match l[j]? with | some x => (g x : Int) | none => 0) := by
  intro k
  induction k with
  | zero => intro _; rfl
  | succ k ih =>
   intro hk
   have hx : l[k]? = some l[k] := List.getElem?_eq_getElem (by omega)
   rw [sn hx]
   simp only [sm, hx]
   have := ih (by omega)
   omega
 have := key l.length (Nat.le_refl _)
 rwa [List.take_length] at this
/-! ### What valid proofs are -/
structure dg (p : af) : Prop where
 text : dp p.text = true
 nf : p.firsts.length ≤ 3
 ns : p.seconds.length ≤ 3
 np : p.pages.length ≤ 8
 rd : ∀ r ∈ p.firsts ++ p.seconds, ge r = true
 page : ∀ (j : Nat) (x : aq), p.pages[j]? = some x → ll p (g8 p.pages j) x = true
theorem lg {p : af} (h : cg p = 0) : dg p ∧ fw p = true := by
 unfold cg at h
 cases ht : dp p.text
 ·rw [ht] at h; simp at h
 ·cases hp : fw p
  ·rw [ht, hp] at h; simp at h
  ·refine ⟨?_, rfl⟩
   unfold fw jk at hp
   simp only [Bool.and_eq_true, decide_eq_true_eq] at hp
   obtain ⟨⟨⟨⟨⟨h1, h2⟩, h3⟩, _⟩, h5⟩, h6⟩ := hp
   refine ⟨ht, h1, h2, h5, fun r hr => List.all_eq_true.1 h3 r hr, fun j x hx => ?_⟩
   have hj := (List.getElem?_eq_some_iff.1 hx).1
   have := List.all_eq_true.1 h6 j (List.mem_range.2 hj)
   unfold s7 at this
   rw [hx] at this
   exact this
structure lz (p : af) (last : Int) (x : aq) : Prop where
 fr : last < x.fr
 to : x.fr ≤ x.to
 lt : x.to < (l8 p.text : Int)
 fst : -1 ≤ x.fst ∧ x.fst ≤ (p.firsts.length : Int) - 1
 snd : -1 ≤ x.snd ∧ x.snd ≤ (p.seconds.length : Int) - 1
 found : g5 p.text x x.fst x.found = true
 well : g5 p.text x x.snd x.well = true
theorem pageB_true {p : af} {last : Int} {x : aq} : ll p last x = true ↔ lz p last x := by
 unfold ll
 simp only [Bool.and_eq_true, decide_eq_true_eq, inB_true]
 exact ⟨fun ⟨⟨⟨⟨⟨⟨h1, h2⟩, h3⟩, h4⟩, h5⟩, h6⟩, h7⟩ => ⟨h1, h2, h3, h4, h6, h5, h7⟩, fun h => ⟨⟨⟨⟨⟨⟨h.fr, h.to⟩, h.lt⟩, h.fst⟩, h.found⟩, h.snd⟩, h.well⟩⟩
theorem ma {t : ai} {x : aq} {r : Int} {l : List PlaceD} (h : g5 t x r l = true) {q : PlaceD} (hq : q ∈ l) : ff t q = true ∧ gz t x q = true := by
 unfold g5 at h
 rw [Bool.and_eq_true] at h
 obtain ⟨i, hi⟩ := List.getElem?_of_mem hq
 have := List.all_eq_true.1 h.2 i (List.mem_range.2 (List.getElem?_eq_some_iff.1 hi).1)
 unfold ja at this
 rw [hi] at this
 simp only [Bool.and_eq_true] at this
 exact this.1
theorem umk {t : ai} {x : aq} {r : Int} {l : List PlaceD} (h : g5 t x r l = true) {i : Nat} {a q : PlaceD} (ha : l[i]? = some a) (hq : l[i + 1]? = some q) : ey (c4 a) (c4 q) < 0 := by
 unfold g5 at h
 rw [Bool.and_eq_true] at h
 have := List.all_eq_true.1 h.2 (i + 1) (List.mem_range.2 (List.getElem?_eq_some_iff.1 hq).1)
 unfold ja at this
 rw [hq, Nat.add_sub_cancel, ha] at this
 have h9 : (ff t q = true ∧ gz t x q = true) ∧ ey (c4 a) (c4 q) < 0 := by simpa [mj] using this
 exact h9.2
theorem ufl {a b c : PlaceD} (h : ey (c4 a) (c4 b) < 0) (k : ey (c4 b) (c4 c) < 0) : ey (c4 a) (c4 c) < 0 := by
 rw [ng (by rfl)] at h k ⊢
 exact ri h k
theorem z8 (a : PlaceD) : ¬ ey (c4 a) (c4 a) < 0 := by
 rw [ng (by rfl)]
 exact pa _
theorem uhm {l : List PlaceD} (h : ∀ (i : Nat) (a q : PlaceD), l[i]? = some a → l[i + 1]? = some q → ey (c4 a) (c4 q) < 0) : l.Pairwise fun a b => ey (c4 a) (c4 b) < 0 := by
 rw [List.pairwise_iff_getElem]
 intro i j hi hj hij
 have key : ∀ d (hd : i + 1 + d < l.length), ey (c4 l[i]) (c4 l[i + 1 + d]) < 0 := by
  intro d
  induction d with
  | zero => intro hd; exact h i _ _ (List.getElem?_eq_getElem hi) (List.getElem?_eq_getElem hd)
  | succ d ih =>
   intro hd
   exact ufl (ih (by omega)) (h (i + 1 + d) _ _ (List.getElem?_eq_getElem (by omega)) (List.getElem?_eq_getElem hd))
 have := key (j - (i + 1)) (by omega)
 simpa [show i + 1 + (j - (i + 1)) = j by omega] using this
theorem wr {t : ai} {x : aq} {r : Int} {l : List PlaceD} (h : g5 t x r l = true) : l.Pairwise fun a b => ey (c4 a) (c4 b) < 0 := uhm fun _ _ _ ha hq => umk h ha hq
/-- lists in order, with the same places -/
theorem uy : ∀ {l m : List PlaceD}, l.Pairwise (fun a b => ey (c4 a) (c4 b) < 0) → m.Pairwise (fun a b => ey (c4 a) (c4 b) < 0) → (∀ q, q ∈ l ↔ q ∈ m) → l = m
 | [], [], _, _, _ => rfl
 | [], b :: m, _, _, h => by have := (h b).2 (List.mem_cons_self ..); cases this
 | a :: l, [], _, _, h => by have := (h a).1 (List.mem_cons_self ..); cases this
 | a :: l, b :: m, h1, h2, h => by
  rw [List.pairwise_cons] at h1 h2
  have hab : a = b := by
   have p1 := (h a).1 (List.mem_cons_self ..)
   have p2 := (h b).2 (List.mem_cons_self ..)
   rw [List.mem_cons] at p1 p2
   rcases p1 with rfl | p1
   ·rfl
   ·rcases p2 with rfl | p2
    ·rfl
    ·exact absurd (ufl (h1.1 b p2) (h2.1 a p1)) (z8 a)
  subst hab
  rw [uy h1.2 h2.2 fun q => ?_]
  constructor
  ·intro hq
   have := (h q).1 (List.mem_cons_of_mem _ hq)
   rw [List.mem_cons] at this
   rcases this with rfl | this
   ·exact absurd (h1.1 q hq) (z8 q)
   ·exact this
  ·intro hq
   have := (h q).2 (List.mem_cons_of_mem _ hq)
   rw [List.mem_cons] at this
   rcases this with rfl | this
   ·exact absurd (h2.1 q hq) (z8 q)
   ·exact this
/-! ### Pages between readers -/
def j2 (p : af) (j : Nat) (g : aq → Int) : Int := match p.pages[j]? with | some x => g x | none => 0
theorem my {p : af} {j : Nat} {x : aq} (h : p.pages[j]? = some x) (g : aq → Int) : j2 p j g = g x := by unfold j2; rw [h]
def cr (p : af) (j : Nat) : Int := j2 p j (qk p.text)
def cn (p : af) (j : Nat) : Int := j2 p j fun x => ((dm p.text x).length : Int)
def fq (p : af) (j : Nat) : Int := j2 p j fun x => (el p.text x : Int)
theorem o7 {p : af} (h : dg p) : (bi p).Ok := by
 refine ⟨Nat.le_add_right _ _, fun j i hi => ?_, fun j i hi => ?_⟩
 ·simp only [bi] at hi ⊢
  cases hx : p.pages[j]? with
  | none => rw [hx] at hi; cases hi
  | some x =>
   rw [hx] at hi
   have hp := (pageB_true.1 (h.page j x hx)).fst
   dsimp only at hi
   by_cases q : 0 ≤ x.fst
   ·rw [decide_eq_true q, cond_true, Option.some.injEq] at hi
    omega
   ·rw [decide_eq_false q] at hi; cases hi
 ·simp only [bi, bv] at hi ⊢
  cases hx : p.pages[j]? with
  | none => rw [hx] at hi; cases hi
  | some x =>
   rw [hx] at hi
   have hp := (pageB_true.1 (h.page j x hx)).snd
   dsimp only at hi
   by_cases q : 0 ≤ x.snd
   ·rw [decide_eq_true q, cond_true, Option.some.injEq] at hi
    omega
   ·rw [decide_eq_false q] at hi; cases hi
/-- the readers of a page, as the program lists them -/
def dd (p : af) (x : aq) : List Int := (bif decide (0 ≤ x.fst) then [x.fst] else []) ++ (bif decide (0 ≤ x.snd) then [(p.firsts.length : Int) + x.snd] else [])
theorem ud2 {p : af} {j : Nat} {x : aq} (hx : p.pages[j]? = some x) (S : Nat → Bool) : (bi p).hit S j = (dd p x).any fun k => S k.toNat := by
 simp only [Net.hit, bi, hx, dd, List.any_append]
 congr 1
 ·cases decide (0 ≤ x.fst) <;> simp [ob]
 ·by_cases q : 0 ≤ x.snd
  ·simp [q, ob, show ((p.firsts.length : Int) + x.snd).toNat = p.firsts.length + x.snd.toNat by omega]
  ·simp [q, ob]
theorem rq {p : af} (h : dg p) {j : Nat} {x : aq} (hx : p.pages[j]? = some x) (i : Nat) : (bi p).by j i = bif decide (i < p.firsts.length) then decide (d9 false x = (i : Int)) else decide (d9 true x = ((i - p.firsts.length : Nat) : Int)) := by
 have hp := pageB_true.1 (h.page j x hx)
 have h1 := hp.fst
 have h2 := hp.snd
 simp only [Net.by, bi, hx]
 rw [Bool.eq_iff_iff]
 by_cases hi : i < p.firsts.length
 ·rw [decide_eq_true hi, cond_true, Bool.or_eq_true, decide_eq_true_eq, decide_eq_true_eq, decide_eq_true_eq]
  show _ ↔ x.fst = (i : Int)
  constructor
  ·rintro (q | q)
   ·by_cases z : 0 ≤ x.fst
    ·rw [decide_eq_true z, cond_true, Option.some.injEq] at q; omega
    ·rw [decide_eq_false z] at q; cases q
   ·by_cases z : 0 ≤ x.snd
    ·rw [decide_eq_true z, cond_true, Option.some.injEq] at q; omega
    ·rw [decide_eq_false z] at q; cases q
  ·intro q
   left
   rw [decide_eq_true (show 0 ≤ x.fst by omega), cond_true, Option.some.injEq]
   omega
 ·rw [decide_eq_false hi, cond_false, Bool.or_eq_true, decide_eq_true_eq, decide_eq_true_eq, decide_eq_true_eq]
  show _ ↔ x.snd = ((i - p.firsts.length : Nat) : Int)
  constructor
  ·rintro (q | q)
   ·by_cases z : 0 ≤ x.fst
    ·rw [decide_eq_true z, cond_true, Option.some.injEq] at q; omega
    ·rw [decide_eq_false z] at q; cases q
   ·by_cases z : 0 ≤ x.snd
    ·rw [decide_eq_true z, cond_true, Option.some.injEq] at q; omega
    ·rw [decide_eq_false z] at q; cases q
  ·intro q
   right
   rw [decide_eq_true (show 0 ≤ x.snd by omega), cond_true, Option.some.injEq]
   omega
theorem ume {p : af} {last : Int} {x : aq} (h : lz p last x) : (dm p.text x).length ≤ el p.text x := by
 unfold dm el
 rw [← List.countP_eq_length_filter, ← List.countP_eq_length_filter]
 refine List.countP_mono_left fun q _ hq => ?_
 rw [Bool.or_eq_true, decide_eq_true_eq, decide_eq_true_eq] at hq
 rcases hq with hq | hq
 ·exact (ma h.found hq).2
 ·exact (ma h.well hq).2
theorem ue {p : af} (h : dg p) (j : Nat) : 0 ≤ cr p j := by
 unfold cr j2
 cases hx : p.pages[j]? with
 | none => exact Int.le_refl _
 | some x =>
  have := ume (pageB_true.1 (h.page j x hx))
  show 0 ≤ qk p.text x
  unfold qk
  omega
def rr (p : af) (i : Nat) : Int := bif decide (i < p.firsts.length) then cw p false i else cw p true (i - p.firsts.length)
/-- of the bound of a reader is left what is not told -/
theorem ulg {p : af} (h : dg p) (i : Nat) : ck p i = rr p i - sm p.pages.length (fun j => bif (bi p).by j i then cn p j else 0) := by
 have key : ∀ (b : Bool) (k : Int), (∀ (j : Nat) (x : aq), p.pages[j]? = some x → (bi p).by j i = decide (d9 b x = k)) → ((d8 p.pages (iq p.text b k) : Nat) : Int) = sm p.pages.length (fun j => bif (bi p).by j i then cn p j else 0) := fun b k hb => by
  rw [uhg]
  refine gl fun j hj => ?_
  have hx : p.pages[j]? = some p.pages[j] := List.getElem?_eq_getElem hj
  rw [hb j _ hx]
  unfold cn
  rw [my hx, hx]
  dsimp only
  unfold iq
  cases decide (d9 b p.pages[j] = k) <;> rfl
 unfold ck rr
 by_cases hi : i < p.firsts.length
 ·rw [decide_eq_true hi, cond_true, cond_true]
  unfold k8
  rw [key false i fun j x hx => by rw [rq h hx, decide_eq_true hi, cond_true]]
 ·rw [decide_eq_false hi, cond_false, cond_false]
  unfold k8
  rw [key true _ fun j x hx => by rw [rq h hx, decide_eq_false hi, cond_false]]
end Go.AB
namespace Go.AB
open Go Go.RowKit
open Go.AB.Enc (cells)
/-- the numbers of a set -/
def ti (n s : Nat) : List Nat := (List.range n).filter fun i => s.testBit i
def cd (n s : Nat) : List Int := (ti n s).map fun i : Nat => (i : Int)
theorem vx (n s : Nat) : cd (n + 1) s = cd n s ++ (bif s.testBit n then [(n : Int)] else []) := by
 unfold cd ti
 rw [List.range_succ, List.filter_append, List.map_append]
 cases h : s.testBit n <;> simp [h]
theorem m5 (n s : Nat) : (cd n s).length ≤ n := by
 unfold cd ti
 rw [List.length_map]
 have := List.length_filter_le (fun i => s.testBit i) (List.range n)
 rwa [List.length_range] at this
theorem membersL_mem {n s : Nat} {x : Int} : x ∈ cd n s ↔ ∃ i : Nat, x = (i : Int) ∧ i < n ∧ s.testBit i = true := by
 unfold cd ti
 simp only [List.mem_map, List.mem_filter, List.mem_range]
 exact ⟨fun ⟨i, ⟨h1, h2⟩, h3⟩ => ⟨i, h3.symm, h1, h2⟩, fun ⟨i, h3, h1, h2⟩ => ⟨i, ⟨h1, h2⟩, h3.symm⟩⟩
/-- the order of lists: shorter ones first, then by their numbers -/
def gt (a b : List Int) : Bool := decide (a.length < b.length) || (decide (a.length = b.length) && decide (ey a b < 0))
theorem uaa {a b : List Int} : gt a b = true ↔ a.length < b.length ∨ (a.length = b.length ∧ ltW a b) := by
 unfold gt
 rw [Bool.or_eq_true, Bool.and_eq_true, decide_eq_true_eq, decide_eq_true_eq, decide_eq_true_eq]
 constructor
 ·rintro (h | ⟨h1, h2⟩)
  ·exact .inl h
  ·exact .inr ⟨h1, (ng h1).1 h2⟩
 ·rintro (h | ⟨h1, h2⟩)
  ·exact .inl h
  ·exact .inr ⟨h1, (ng h1).2 h2⟩
theorem uab (a : List Int) : gt a a = false := by
 rw [← Bool.not_eq_true, uaa]
 rintro (h | ⟨_, h⟩)
 ·omega
 ·exact pa a h
theorem un2 {a b c : List Int} (h : gt a b = true) (k : gt b c = true) : gt a c = true := by
 rw [uaa] at *
 rcases h with h | ⟨h1, h2⟩
 ·rcases k with k | ⟨k1, _⟩
  ·exact .inl (by omega)
  ·exact .inl (by omega)
 ·rcases k with k | ⟨k1, k2⟩
  ·exact .inl (by omega)
  ·exact .inr ⟨by omega, ri h2 k2⟩
/-- what is found among the first sets -/
def ez (so : Nat → Bool) (n : Nat) : Nat → Option (List Int)
 | 0 => none
 | k + 1 => match ez so n k with
  | none => bif so k then some (cd n k) else none
  | some b => bif so k && gt (cd n k) b then some (cd n k) else some b
def jy (so : Nat → Bool) (n : Nat) : List Int := (ez so n (2 ^ n)).getD []
structure uai (so : Nat → Bool) (n k : Nat) (b : List Int) : Prop where
 get : ∃ s, s < k ∧ so s = true ∧ b = cd n s
 min : ∀ s, s < k → so s = true → gt (cd n s) b = false
theorem uf (so : Nat → Bool) (n : Nat) : ∀ k, (ez so n k = none ∧ ∀ s, s < k → so s = false) ∨ ∃ b, ez so n k = some b ∧ uai so n k b
 | 0 => .inl ⟨rfl, fun s h => absurd h (Nat.not_lt_zero _)⟩
 | k + 1 => by
  rcases uf so n k with ⟨h1, h2⟩ | ⟨b, h1, h2⟩
  ·simp only [ez, h1]
   cases hs : so k
   ·exact .inl ⟨rfl, fun s h => by
     by_cases e : s = k
     ·subst e; exact hs
     ·exact h2 s (by omega)⟩
   ·exact .inr ⟨_, rfl, ⟨k, by omega, hs, rfl⟩, fun s h hso => by
     by_cases e : s = k
     ·subst e; exact uab _
     ·rw [h2 s (by omega)] at hso; cases hso⟩
  ·simp only [ez, h1]
   right
   cases hs : so k && gt (cd n k) b
   ·refine ⟨b, rfl, ?_, fun s h hso => ?_⟩
    ·obtain ⟨s, q1, q2, q3⟩ := h2.get
     exact ⟨s, by omega, q2, q3⟩
    ·by_cases e : s = k
     ·subst e
      rw [hso, Bool.true_and] at hs
      exact hs
     ·exact h2.min s (by omega) hso
   ·rw [Bool.and_eq_true] at hs
    refine ⟨_, rfl, ⟨k, by omega, hs.1, rfl⟩, fun s h hso => ?_⟩
    by_cases e : s = k
    ·subst e; exact uab _
    ·rw [← Bool.not_eq_true]
     intro hb
     have := un2 hb hs.2
     rw [h2.min s (by omega) hso] at this
     cases this
/-- one that is so, and none ahead of it -/
theorem un1 {so : Nat → Bool} {n : Nat} (h : ∃ s, s < 2 ^ n ∧ so s = true) : uai so n (2 ^ n) (jy so n) := by
 obtain ⟨s, h1, h2⟩ := h
 rcases uf so n (2 ^ n) with ⟨_, q⟩ | ⟨b, q1, q2⟩
 ·rw [q s h1] at h2; cases h2
 ·unfold jy
  rw [q1]
  exact q2
theorem ufk (so : Nat → Bool) (n : Nat) : (jy so n).length ≤ n := by
 unfold jy
 rcases uf so n (2 ^ n) with ⟨h, _⟩ | ⟨b, h, k⟩
 ·rw [h]; exact Nat.zero_le _
 ·rw [h]
  obtain ⟨s, _, _, rfl⟩ := k.get
  exact m5 n s
theorem ufj {so : Nat → Bool} {n k : Nat} (h : ez so n k = none) : ez so n (k + 1) = bif so k then some (cd n k) else none := by simp only [ez, h]
theorem z7 {so : Nat → Bool} {n k : Nat} {b : List Int} (h : ez so n k = some b) : ez so n (k + 1) = bif so k && gt (cd n k) b then some (cd n k) else some b := by simp only [ez, h]
/-! ### Lists of numbers that are looked up -/
def bh (n : Nat) (R : Nat → Int) : List Int := (List.range n).map R
theorem gk (n : Nat) (R : Nat → Int) : (bh n R).length = n := by simp [bh]
theorem j1 {n i : Nat} (R : Nat → Int) (h : i < n) : (bh n R)[i]? = some (R i) := by simp [bh, h]
theorem pq (n : Nat) (R : Nat → Int) : bh (n + 1) R = bh n R ++ [R n] := by
 unfold bh
 rw [List.range_succ, List.map_append]; rfl
theorem xp {n i : Nat} (R : Nat → Int) (v : Int) (h : i < n) : (bh n R).set i v = bh n fun k => bif decide (k = i) then v else R k := by
 apply List.ext_getElem?
 intro k
 rw [List.getElem?_set, gk]
 by_cases hk : k < n
 ·rw [j1 (fun k => bif decide (k = i) then v else R k) hk, j1 R hk]
  by_cases e : i = k
  ·subst e; rw [if_pos rfl, if_pos h, decide_eq_true rfl]; rfl
  ·rw [if_neg e, decide_eq_false (Ne.symm e)]; rfl
 ·rw [List.getElem?_eq_none (by rw [gk]; omega)]
  rw [if_neg (by omega), List.getElem?_eq_none (by rw [gk]; omega)]
end Go.AB
namespace Go.AB
open Go Go.RowKit
open Go.AB.Enc (cells)
open Go.PB (aw ai PlaceD ba bf bd bn aq af cj bj)
/-! ### All places are in order -/
theorem uob (t : ai) : (gi t).Pairwise fun a b => ey (c4 a) (c4 b) < 0 := by
 unfold gi
 rw [List.pairwise_map, List.pairwise_iff_getElem]
 intro i j hi hj hij
 have h1 := List.getElem?_eq_getElem hi
 have h2 := List.getElem?_eq_getElem hj
 have h := uka (uf0 h1).1 (uf0 h2).1
 rw [yo h1 rfl, yo h2 rfl] at h
 rw [ng (by rfl), ← h]
 omega
theorem allQ_mem {t : ai} {q : PlaceD} : q ∈ gi t ↔ ff t q = true := allP_mem
theorem wt {t : ai} (f : PlaceD → Bool) : ((gi t).filter f).Pairwise fun a b => ey (c4 a) (c4 b) < 0 := (uob t).filter _
/-- places in order, of a text, are those of all places that are among them -/
theorem uht {t : ai} {l : List PlaceD} (h : l.Pairwise fun a b => ey (c4 a) (c4 b) < 0) (hp : ∀ q ∈ l, ff t q = true) : l = (gi t).filter fun q => decide (q ∈ l) :=
 uy h (wt _) fun q => by
  rw [List.mem_filter, decide_eq_true_eq, allQ_mem]
  exact ⟨fun h => ⟨hp q h, h⟩, fun h => h.2⟩
theorem uml {t : ai} {x : aq} {r : Int} {l : List PlaceD} (h : g5 t x r l = true) : l = (gi t).filter fun q => decide (q ∈ l) := uht (wr h) fun q hq => (ma h hq).1
theorem pi {t : ai} {x : aq} {r : Int} {l : List PlaceD} (h : g5 t x r l = true) : l.length ≤ (gi t).length := by
 rw [uml h]
 exact List.length_filter_le _ _
theorem ua (t : ai) (x : aq) : (dm t x).length ≤ (gi t).length := List.length_filter_le _ _
theorem ufh (t : ai) (x : aq) : (d7 t x).length ≤ (gi t).length := List.length_filter_le _ _
theorem si (t : ai) (x : aq) : el t x ≤ (gi t).length := List.length_filter_le _ _
/-! ### How great numbers are -/
theorem xq {g : aq → Nat} {m : Nat} : ∀ {l : List aq}, (∀ x ∈ l, g x ≤ m) → d8 l g ≤ l.length * m
 | [], _ => by simp [d8]
 | x :: l, h => by
  have h1 := xq (l := l) fun y hy => h y (List.mem_cons_of_mem _ hy)
  have h2 := h x (List.mem_cons_self ..)
  simp only [d8, List.map_cons, List.sum_cons, List.length_cons] at h1 ⊢
  rw [Nat.succ_mul]
  omega
theorem ucm {p : af} (h : dg p) (b : Bool) (i : Int) : d8 p.pages (gm b i) ≤ 4800 := by
 have hq := nh h.text
 have h1 := xq (l := p.pages) (g := gm b i) (m := 600) fun x hx => by
  obtain ⟨j, hj⟩ := List.getElem?_of_mem hx
  have hp := pageB_true.1 (h.page j x hj)
  unfold gm
  cases decide (d9 b x = i)
  ·exact Nat.zero_le _
  ·cases b
   ·have := pi hp.found
    show x.found.length ≤ 600
    omega
   ·have := pi hp.well
    show x.well.length ≤ 600
    omega
 have := h.np
 have h2 : p.pages.length * 600 ≤ 8 * 600 := Nat.mul_le_mul_right _ this
 omega
theorem uby {p : af} (h : dg p) (b : Bool) (i : Int) : d8 p.pages (iq p.text b i) ≤ 4800 := by
 have hq := nh h.text
 have h1 := xq (l := p.pages) (g := iq p.text b i) (m := 600) fun x hx => by
  have := ua p.text x
  unfold iq
  cases decide (d9 b x = i)
  ·exact Nat.zero_le _
  ·show (dm p.text x).length ≤ 600
   omega
 have := h.np
 have h2 : p.pages.length * 600 ≤ 8 * 600 := Nat.mul_le_mul_right _ this
 omega
theorem yx {p : af} (h : dg p) (b : Bool) (i : Nat) : 0 ≤ jm p b i ∧ jm p b i ≤ 90 := by
 unfold jm
 cases hr : (di p b)[i]? with
 | none => exact ⟨Int.le_refl _, by show (0 : Int) ≤ 90; omega⟩
 | some r =>
  have hm := List.mem_of_getElem? hr
  have : ge r = true := h.rd r (by
   rw [List.mem_append]
   cases b
   ·exact .inl hm
   ·exact .inr hm)
  unfold ge at this
  rw [Bool.and_eq_true, inB_true, inB_true] at this
  exact this.2
theorem oh {p : af} (h : dg p) (b : Bool) (i : Nat) : 0 ≤ cw p b i ∧ cw p b i ≤ 48000 := by
 have h1 := ucm h b i
 have h2 := yx h b i
 unfold cw
 have h3 : (0 : Int) < 100 - jm p b i := by omega
 refine ⟨Int.ediv_nonneg (by omega) (by omega), ?_⟩
 have h4 : 100 * ((d8 p.pages (gm b i) : Nat) : Int) / (100 - jm p b i) ≤ 100 * ((d8 p.pages (gm b i) : Nat) : Int) / 10 := by
  refine Int.le_ediv_of_mul_le (by omega) ?_
  have h5 := Int.ediv_mul_le (100 * ((d8 p.pages (gm b i) : Nat) : Int)) (show (100 - jm p b i) ≠ 0 by omega)
  have h6 : 0 ≤ 100 * ((d8 p.pages (gm b i) : Nat) : Int) / (100 - jm p b i) := Int.ediv_nonneg (by omega) (by omega)
  have h7 : 100 * ((d8 p.pages (gm b i) : Nat) : Int) / (100 - jm p b i) * 10 ≤ 100 * ((d8 p.pages (gm b i) : Nat) : Int) / (100 - jm p b i) * (100 - jm p b i) := Int.mul_le_mul_of_nonneg_left (by omega) h6
  omega
 omega
theorem udm {p : af} (h : dg p) (b : Bool) (i : Nat) : -4800 ≤ k8 p b i ∧ k8 p b i ≤ 48000 := by
 have h1 := oh h b i
 have h2 := uby h b i
 unfold k8
 omega
theorem ulh {p : af} (h : dg p) (i : Nat) : -4800 ≤ ck p i ∧ ck p i ≤ 48000 := by
 unfold ck
 cases decide (i < p.firsts.length)
 ·exact udm h _ _
 ·exact udm h _ _
theorem w4 {p : af} (h : dg p) (j : Nat) : 0 ≤ cr p j ∧ cr p j ≤ 600 := by
 refine ⟨ue h j, ?_⟩
 have hq := nh h.text
 unfold cr j2
 cases hx : p.pages[j]? with
 | none => show (0 : Int) ≤ 600; omega
 | some x =>
  have := si p.text x
  show qk p.text x ≤ 600
  unfold qk
  omega
/-! ### What is told -/
section
def ed (p : af) (n : Int) : Int := bif decide (cg p = 0) then (bif inB n 0 ((p.pages.length : Int) - 1) then 0 else 2) else cg p
def fa (p : af) (e : Int) : Int := bif decide (e = 0) then (bif gd p then 0 else 8) else e
def jt (p : af) (b : Bool) (n : Int) : Int := bif decide (cg p = 0) then (bif inB n 0 (((di p b).length : Int) - 1) then 0 else 2) else cg p
def iw (p : af) (m : Int) : Int := bif decide (cg p = 0) then (bif decide (m < 0) then 2 else bif gd p then 0 else 8) else cg p
def atE {α : Type} (e : Int) (d v : α) : α := bif decide (e = 0) then v else d
def l5 (p : af) (n : Int) : aq := (p.pages[n.toNat]?).getD ⟨0, 0, 0, 0, [], []⟩
def nj (p : af) (n : Int) : Int := atE (ed p n) 0 (el p.text (l5 p n) : Int)
def ph (p : af) (n : Int) : List PlaceD := atE (ed p n) [] (dm p.text (l5 p n))
def rt (p : af) (n : Int) : List PlaceD := atE (ed p n) [] (d7 p.text (l5 p n))
def mh (p : af) (b : Bool) (n : Int) : Int := atE (jt p b n) 0 (cw p b n.toNat)
def na (p : af) (n : Int) : Int := bif decide (ed p n = 0) then (bif decide ((d7 p.text (l5 p n)).length = 0) then 6 else 0) else ed p n
def zg (x : aq) (k : Nat) : bj := ⟨((x.found.length * x.well.length / k : Nat) : Int), (((x.found.length * x.well.length + k - 1) / k : Nat) : Int)⟩
def n7 (p : af) (n : Int) : bj := atE (na p n) ⟨0, 0⟩ (zg (l5 p n) (d7 p.text (l5 p n)).length)
def pu (p : af) (n : Int) : bj := atE (fa p (ed p n)) ⟨0, 0⟩ ⟨0, (bi p).alone (ck p) (cr p) n.toNat⟩
def uaw (p : af) : Int := (bi p).most (ck p) (cr p)
def qu (p : af) : bj := atE (fa p (cg p)) ⟨0, 0⟩ ⟨0, uaw p⟩
noncomputable def fp (p : af) : Nat → Int := (bi p).worst (ck p) (cr p)
noncomputable def mp (p : af) : List Int := atE (fa p (cg p)) [] (bh p.pages.length (fp p))
def qt (p : af) (s : Nat) : Bool := decide ((bi p).f (ck p) (cr p) (fun i => s.testBit i) = uaw p)
def g6 (p : af) : List Int := jy (qt p) (bv p)
def nk (p : af) (l : List Int) : List Int := l.filter fun k => decide (k < (p.firsts.length : Int))
def mr (p : af) (l : List Int) : List Int := (l.filter fun k => !decide (k < (p.firsts.length : Int))).map fun k => k - (p.firsts.length : Int)
def gw (C : Nat → Int) (l : List Int) (j : Nat) : Int := bif decide ((j : Int) ∈ l) then 0 else C j
def jq (p : af) (l : List Int) : Int := (bi p).most (ck p) (gw (cr p) l)
def lx (p : af) (m : Int) (s : Nat) : Bool := decide (jq p (cd p.pages.length s) ≤ m)
def jd (p : af) (m : Int) : List Int := atE (iw p m) [] (jy (lx p m) p.pages.length)
end
theorem uga (C : Nat → Int) : gw C [] = C := by funext j; simp [gw]
theorem uf9 (C : Nat → Int) (l : List Int) (i : Nat) : gw C (l ++ [(i : Int)]) = dq (gw C l) i := by
 funext j
 unfold gw dq
 by_cases e : j = i
 ·subst e; simp
 ·rw [decide_eq_false e, cond_false]
  congr 1
  rw [decide_eq_decide, List.mem_append, List.mem_singleton]
  constructor
  ·rintro (h | h)
   ·exact h
   ·omega
  ·exact .inl
theorem ulb (N : Net) (R : Nat → Int) (j : Nat) : N.lessR R j 0 = R := by
 funext i
 unfold Net.lessR
 cases N.by j i <;> simp
theorem ut {p : af} (h : gd p = true) : ∀ i, i < (bi p).nr → 0 ≤ ck p i := fun i hi => by
 have := List.all_eq_true.1 h i (List.mem_range.2 hi)
 exact of_decide_eq_true this
end Go.AB
namespace Go.AB
open Go Go.RowKit
open Go.AB.Enc (cells)
open Go.PB (aw ai PlaceD ba bf bd bn aq af cj bj)
theorem xw : ∀ (a b : Nat) (g : Nat → Int), sm (a + b) g = sm a g + sm b fun i => g (a + i)
 | a, 0, g => by simp [sm]
 | a, b + 1, g => by
  have := xw a b g
  rw [show a + (b + 1) = (a + b) + 1 from rfl]
  simp only [sm]
  omega
/-! ### Readers who miss less -/
theorem Net.alone_mono {N : Net} (hN : N.Ok) {R R' C : Nat → Int} (h : ∀ i, i < N.nr → R' i ≤ R i) (j : Nat) : N.alone R' C j ≤ N.alone R C j := by
 have := Net.le_alone.1 (Int.le_refl (N.alone R' C j))
 exact Net.le_alone.2 ⟨this.1, fun i hi => Int.le_trans (this.2 i hi) (h i (hN.by_lt hi))⟩
theorem umu {a b c : Int} (ha : 0 ≤ a) (hb : 0 < b) (hc : b ≤ c) : a / c ≤ a / b := by
 refine Int.le_ediv_of_mul_le hb ?_
 have h1 := Int.ediv_mul_le a (show c ≠ 0 by omega)
 have h2 : 0 ≤ a / c := Int.ediv_nonneg ha (by omega)
 have h3 := Int.mul_le_mul_of_nonneg_left hc h2
 omega
end Go.AB
namespace Go.AB
open Go Go.RowKit
open Go.AB.Enc (cells)
open Go.PB (aw ai PlaceD ba bf bd bn aq af cj bj)
/-- a page has a reader of a set -/
def hitX (p : af) (S : Nat → Bool) (x : aq) : Bool := (dd p x).any fun k => S k.toNat
theorem ul6 {p : af} {j : Nat} {x : aq} (hx : p.pages[j]? = some x) (S : Nat → Bool) : (bi p).hit S j = hitX p S x := ud2 hx S
end Go.AB
namespace Go.AB
open Go Go.RowKit
open Go.AB.Enc (cells)
open Go.PB (aw ai PlaceD ba bf bd bn aq af cj bj)
/-- a set, as a list -/
def f9 (n : Nat) (S : Nat → Bool) : List Int := ((List.range n).filter S).map fun i : Nat => (i : Int)
theorem uky (n : Nat) (S : Nat → Bool) : f9 (n + 1) S = f9 n S ++ (bif S n then [(n : Int)] else []) := by
 unfold f9
 rw [List.range_succ, List.filter_append, List.map_append]
 cases h : S n <;> simp [h]
theorem memL_mem {n : Nat} {S : Nat → Bool} {x : Int} : x ∈ f9 n S ↔ ∃ i : Nat, x = (i : Int) ∧ i < n ∧ S i = true := by
 unfold f9
 simp only [List.mem_map, List.mem_filter, List.mem_range]
 exact ⟨fun ⟨i, ⟨h1, h2⟩, h3⟩ => ⟨i, h3.symm, h1, h2⟩, fun ⟨i, h3, h1, h2⟩ => ⟨i, ⟨h1, h2⟩, h3.symm⟩⟩
theorem tj {n : Nat} {S S' : Nat → Bool} (h : ∀ i, i < n → S i = S' i) : f9 n S = f9 n S' := by
 unfold f9
 rw [List.filter_congr fun i hi => h i (List.mem_range.1 hi)]
/-- the sum of what the numbers of a list have -/
def ib (l : List Int) (g : Int → Int) : Int := (l.map g).sum
theorem udy (l : List Int) (x : Int) (g : Int → Int) : ib (l ++ [x]) g = ib l g + g x := by simp [ib]
theorem za (S : Nat → Bool) (g : Int → Int) : ∀ n, ib (f9 n S) g = sm n fun i => bif S i then g (i : Int) else 0
 | 0 => rfl
 | n + 1 => by
  have := za S g n
  rw [uky]
  cases h : S n
  ·simp only [cond_false, List.append_nil, sm, h]; omega
  ·simp only [cond_true, udy, sm, h]; omega
/-- what a page has in what some readers prove -/
def bx (p : af) (F S but : List Int) (j : Nat) : Int := j2 p j fun x =>
 (bif !decide (x.fst ∈ F) && !decide (x.snd ∈ S) && !decide ((j : Int) ∈ but) then qk p.text x else 0) - (bif decide (x.fst ∈ F) then ((dm p.text x).length : Int) else 0) - (bif decide (x.snd ∈ S) then ((dm p.text x).length : Int) else 0)
/-- what some readers prove of all pages but some -/
def nz (p : af) (F S but : List Int) : Int := sm p.pages.length (bx p F S but) + ib F (fun i => cw p false i.toNat) + ib S (fun i => cw p true i.toNat)
theorem ul9 {p : af} {last : Int} {x : aq} (h : lz p last x) (S : Nat → Bool) : decide (x.fst ∈ f9 p.firsts.length S) = (decide (0 ≤ x.fst) && S x.fst.toNat) := by
 have h1 := h.fst
 rw [Bool.eq_iff_iff, decide_eq_true_eq, memL_mem, Bool.and_eq_true, decide_eq_true_eq]
 constructor
 ·rintro ⟨i, e, _, k⟩
  rw [e, Int.toNat_natCast]
  exact ⟨by omega, k⟩
 ·rintro ⟨h2, h3⟩
  exact ⟨x.fst.toNat, by omega, by omega, h3⟩
theorem ul8 {p : af} {last : Int} {x : aq} (h : lz p last x) (S : Nat → Bool) : decide (x.snd ∈ f9 p.seconds.length S) = (decide (0 ≤ x.snd) && S x.snd.toNat) := by
 have h1 := h.snd
 rw [Bool.eq_iff_iff, decide_eq_true_eq, memL_mem, Bool.and_eq_true, decide_eq_true_eq]
 constructor
 ·rintro ⟨i, e, _, k⟩
  rw [e, Int.toNat_natCast]
  exact ⟨by omega, k⟩
 ·rintro ⟨h2, h3⟩
  exact ⟨x.snd.toNat, by omega, by omega, h3⟩
theorem ul7 (p : af) (S : Nat → Bool) (x : aq) : hitX p S x = ((decide (0 ≤ x.fst) && S x.fst.toNat) || (decide (0 ≤ x.snd) && S (p.firsts.length + x.snd.toNat))) := by
 unfold hitX dd
 rw [List.any_append]
 congr 1
 ·cases decide (0 ≤ x.fst) <;> simp
 ·by_cases q : 0 ≤ x.snd
  ·simp [q, show ((p.firsts.length : Int) + x.snd).toNat = p.firsts.length + x.snd.toNat by omega]
  ·simp [q]
/-- .. is what the set of them proves -/
theorem ub5 {p : af} (h : dg p) (S : Nat → Bool) (but : List Int) : nz p (f9 p.firsts.length S) (f9 p.seconds.length fun i => S (p.firsts.length + i)) but = (bi p).f (ck p) (gw (cr p) but) S := by
 -- the readers' part
 have hR : sm (bv p) (fun i => bif S i then ck p i else 0) = sm (bv p) (fun i => bif S i then rr p i else 0) - sm p.pages.length (fun j => sm (bv p) fun i => bif S i then (bif (bi p).by j i then cn p j else 0) else 0) := by
  have e : sm p.pages.length (fun j => sm (bv p) fun i => bif S i then (bif (bi p).by j i then cn p j else 0) else 0) = sm (bv p) (fun i => bif S i then sm p.pages.length (fun j => bif (bi p).by j i then cn p j else 0) else 0) := by
   rw [← xv]
   refine gl fun i _ => ?_
   cases S i
   ·simp only [cond_false]; exact lj _
   ·simp only [cond_true]
  rw [e, ← nl]
  refine gl fun i _ => ?_
  have := ulg h i
  cases S i
  ·simp
  ·simp only [cond_true]; exact this
 have hB : sm (bv p) (fun i => bif S i then rr p i else 0) = ib (f9 p.firsts.length S) (fun i => cw p false i.toNat) + ib (f9 p.seconds.length fun i => S (p.firsts.length + i)) (fun i => cw p true i.toNat) := by
  rw [za, za]
  unfold bv
  rw [xw]
  congr 1
  ·refine gl fun i hi => ?_
   unfold rr
   rw [decide_eq_true hi, cond_true, Int.toNat_natCast]
  ·refine gl fun i hi => ?_
   unfold rr
   rw [decide_eq_false (show ¬ p.firsts.length + i < p.firsts.length by omega), cond_false, Nat.add_sub_cancel_left, Int.toNat_natCast]
 -- each page
 have hP : ∀ j, j < p.pages.length → bx p (f9 p.firsts.length S) (f9 p.seconds.length fun i => S (p.firsts.length + i)) but j = (bif (bi p).hit S j then 0 else gw (cr p) but j) - sm (bv p) (fun i => bif S i then (bif (bi p).by j i then cn p j else 0) else 0) := fun j hj => by
  have hx : p.pages[j]? = some p.pages[j] := List.getElem?_eq_getElem hj
  obtain ⟨x, hxe⟩ : ∃ x, p.pages[j] = x := ⟨_, rfl⟩
  rw [hxe] at hx
  have hp := pageB_true.1 (h.page j x hx)
  have h1 := hp.fst
  have h2 := hp.snd
  have hsum : sm (bv p) (fun i => bif S i then (bif (bi p).by j i then cn p j else 0) else 0) = (bif decide (0 ≤ x.fst) && S x.fst.toNat then ((dm p.text x).length : Int) else 0) + (bif decide (0 ≤ x.snd) && S (p.firsts.length + x.snd.toNat) then ((dm p.text x).length : Int) else 0) := by
   unfold bv
   rw [xw]
   have ht : cn p j = ((dm p.text x).length : Int) := my hx _
   congr 1
   ·by_cases q : 0 ≤ x.fst
    ·have := ms (n := p.firsts.length) (k := x.fst.toNat) (by omega) (bif S x.fst.toNat then ((dm p.text x).length : Int) else 0)
     rw [decide_eq_true q, Bool.true_and, ← this]
     refine gl fun i hi => ?_
     rw [rq h hx, decide_eq_true hi, cond_true, ht]
     by_cases e : i = x.fst.toNat
     ·subst e
      rw [decide_eq_true (show d9 false x = ((x.fst.toNat : Nat) : Int) by show x.fst = _; omega), decide_eq_true rfl]; rfl
     ·rw [decide_eq_false (show ¬ d9 false x = (i : Int) by show ¬ x.fst = _; omega), decide_eq_false e]
      cases S i <;> rfl
    ·rw [decide_eq_false q, Bool.false_and, cond_false]
     refine Eq.trans (gl (h := fun _ => 0) fun i hi => ?_) (lj _)
     rw [rq h hx, decide_eq_true hi, cond_true, decide_eq_false (show ¬ d9 false x = (i : Int) by show ¬ x.fst = _; omega)]
     cases S i <;> rfl
   ·by_cases q : 0 ≤ x.snd
    ·have := ms (n := p.seconds.length) (k := x.snd.toNat) (by omega) (bif S (p.firsts.length + x.snd.toNat) then ((dm p.text x).length : Int) else 0)
     rw [decide_eq_true q, Bool.true_and, ← this]
     refine gl fun i hi => ?_
     rw [rq h hx, decide_eq_false (show ¬ p.firsts.length + i < p.firsts.length by omega), cond_false, Nat.add_sub_cancel_left, ht]
     by_cases e : i = x.snd.toNat
     ·subst e
      rw [decide_eq_true (show d9 true x = ((x.snd.toNat : Nat) : Int) by show x.snd = _; omega), decide_eq_true rfl]; rfl
     ·rw [decide_eq_false (show ¬ d9 true x = (i : Int) by show ¬ x.snd = _; omega), decide_eq_false e]
      cases S (p.firsts.length + i) <;> rfl
    ·rw [decide_eq_false q, Bool.false_and, cond_false]
     refine Eq.trans (gl (h := fun _ => 0) fun i hi => ?_) (lj _)
     rw [rq h hx, decide_eq_false (show ¬ p.firsts.length + i < p.firsts.length by omega), cond_false, Nat.add_sub_cancel_left, decide_eq_false (show ¬ d9 true x = (i : Int) by show ¬ x.snd = _; omega)]
     cases S (p.firsts.length + i) <;> rfl
  rw [hsum, ul6 hx, ul7]
  unfold bx
  rw [my hx, ul9 hp, ul8 hp]
  have hz : gw (cr p) but j = bif decide ((j : Int) ∈ but) then 0 else qk p.text x := by
   unfold gw cr
   rw [my hx]
  rw [hz]
  cases decide (0 ≤ x.fst) && S x.fst.toNat <;> cases decide (0 ≤ x.snd) && S (p.firsts.length + x.snd.toNat) <;> cases decide ((j : Int) ∈ but) <;> simp <;> omega
 have hsm : sm p.pages.length (bx p (f9 p.firsts.length S) (f9 p.seconds.length fun i => S (p.firsts.length + i)) but) = sm p.pages.length (fun j => bif (bi p).hit S j then 0 else gw (cr p) but j) - sm p.pages.length (fun j => sm (bv p) fun i => bif S i then (bif (bi p).by j i then cn p j else 0) else 0) := by
  rw [← nl]
  exact gl hP
 unfold nz Net.f
 rw [hsm]
 show _ = sm (bv p) (fun i => bif S i then ck p i else 0) + sm p.pages.length (fun j => bif (bi p).hit S j then 0 else gw (cr p) but j)
 omega
end Go.AB
namespace Go.AB
open Go Go.RowKit
open Go.AB.Enc (cells)
open Go.PB (aw ai PlaceD ba bf bd bn aq af cj bj)
/-- the least that any readers prove is what remains at most -/
theorem uah {p : af} (h : dg p) (but : List Int) : (∀ S, jq p but ≤ nz p (f9 p.firsts.length S) (f9 p.seconds.length fun i => S (p.firsts.length + i)) but) ∧ ∃ S, jq p but = nz p (f9 p.firsts.length S) (f9 p.seconds.length fun i => S (p.firsts.length + i)) but := by
 constructor
 ·intro S
  rw [ub5 h]
  exact Net.most_le (o7 h) S
 ·obtain ⟨S, hS⟩ := (bi p).most_get (ck p) (gw (cr p) but)
  exact ⟨S, by rw [ub5 h]; exact hS⟩
/-- nothing remains on pages that are all read -/
theorem unh {p : af} (h : dg p) (ht : gd p = true) {m : Int} (hm : 0 ≤ m) : ∃ s, s < 2 ^ p.pages.length ∧ lx p m s = true := by
 refine ⟨i5 (fun _ => true) p.pages.length, ru _ _, decide_eq_true ?_⟩
 have h1 := Net.most_le (R := ck p) (C := gw (cr p) (cd p.pages.length (i5 (fun _ => true) p.pages.length))) (o7 h) fun _ => false
 have e1 : (bi p).f (ck p) (gw (cr p) (cd p.pages.length (i5 (fun _ => true) p.pages.length))) (fun _ => false) = 0 := by
  unfold Net.f
  have q1 : sm (bi p).nr (fun i => bif (fun _ : Nat => false) i then ck p i else 0) = 0 := (gl (h := fun _ => 0) fun i _ => rfl).trans (lj _)
  have q2 : sm (bi p).np (fun j => bif (bi p).hit (fun _ => false) j then 0 else gw (cr p) (cd p.pages.length (i5 (fun _ => true) p.pages.length)) j) = 0 := (gl (h := fun _ => 0) fun j hj => by
   have hm : (j : Int) ∈ cd p.pages.length (i5 (fun _ => true) p.pages.length) := membersL_mem.2 ⟨j, rfl, hj, by rw [rx, decide_eq_true (show j < p.pages.length from hj)]; rfl⟩
   unfold gw
   rw [decide_eq_true hm]
   cases (bi p).hit (fun _ => false) j <;> rfl).trans (lj _)
  rw [q1, q2]; rfl
 unfold jq
 omega
/-- what the chief has to read -/
theorem ue8 {p : af} (h : dg p) (ht : gd p = true) {m : Int} (hm : 0 ≤ m) : uai (lx p m) p.pages.length (2 ^ p.pages.length) (jy (lx p m) p.pages.length) := un1 (unh h ht hm)
/-- of the worst truth no more remains on some pages than any readers prove of them -/
theorem ugk {p : af} (h : dg p) (ht : gd p = true) (l : List Int) : sm p.pages.length (fun j => bif decide ((j : Int) ∈ l) then 0 else fp p j) ≤ jq p l := by
 have hf := Net.worst_feas (o7 h) (ut ht) fun j _ => ue h j
 have hf2 : (bi p).Feas (ck p) (gw (cr p) l) (fun j => bif decide ((j : Int) ∈ l) then 0 else fp p j) := by
  refine ⟨fun j hj => ?_, fun i hi => ?_⟩
  ·have := hf.page j hj
   unfold gw
   cases decide ((j : Int) ∈ l)
   ·exact this
   ·exact ⟨Int.le_refl _, Int.le_refl _⟩
  ·refine Int.le_trans (mu fun j hj => ?_) (hf.rd i hi)
   have := (hf.page j hj).1
   cases (bi p).by j i
   ·exact Int.le_refl _
   ·cases decide ((j : Int) ∈ l)
    ·exact Int.le_refl _
    ·exact this
 exact Net.feas_most (o7 h) hf2
end Go.AB
namespace Go.AB
open Go Go.RowKit
open Go.AB.Enc (cells)
open Go.PB (aw ai PlaceD ba bf bd bn aq af cj bj)
/-- as much as can be on a page, if nothing is lost by it -/
theorem Net.pick_alone {N : Net} {R C : Nat → Int} {j : Nat} (h0 : 0 ≤ N.alone R C j) (h : N.most R C ≤ N.alone R C j + N.most (N.lessR R j (N.alone R C j)) (dq C j)) : N.pick R C j = N.alone R C j :=
 Net.pick_eq ⟨h0, Int.le_refl _, h, fun m h1 h2 => by omega⟩
def mn : ByteArray := ⟨#[116, 104, 101]⟩
def iz : ByteArray := ⟨#[115, 101, 97]⟩
def xIs : ByteArray := ⟨#[105, 115]⟩
def mo : ByteArray := ⟨#[111, 108, 100]⟩
def sf : ByteArray := ⟨#[97, 110, 100]⟩
def exTx : ai := [⟨7, [[mn, iz, xIs, mo], [mo, mn, iz]]⟩, ⟨3, [[iz, sf, iz]]⟩]
def exPg : List aq := [⟨0, 0, 0, 0, [⟨0, 0, 0⟩], [⟨0, 0, 0⟩, ⟨0, 0, 3⟩]⟩, ⟨1, 2, 0, -1, [⟨0, 1, 1⟩], []⟩]
def exPr : af := ⟨exTx, [⟨1, 50⟩, ⟨2, 0⟩], [⟨3, 60⟩], exPg⟩
theorem um : fa exPr (cg exPr) = 0 := by decide +kernel
theorem xp_words : nj exPr 1 = 6 ∧ ed exPr 1 = 0 ∧ nj exPr 0 = 4 ∧ ed exPr 0 = 0 := ⟨by decide +kernel, by decide +kernel, by decide +kernel, by decide +kernel⟩
theorem xp_found : ph exPr 0 = [⟨0, 0, 0⟩, ⟨0, 0, 3⟩] ∧ rt exPr 0 = [⟨0, 0, 0⟩] := ⟨by decide +kernel, by decide +kernel⟩
theorem xp_guess : n7 exPr 0 = ⟨2, 2⟩ ∧ na exPr 0 = 0 := ⟨by decide +kernel, by decide +kernel⟩
theorem xp_remain : pu exPr 1 = ⟨0, 1⟩ ∧ fa exPr (ed exPr 1) = 0 ∧ pu exPr 0 = ⟨0, 1⟩ ∧ fa exPr (ed exPr 0) = 0 := ⟨by decide +kernel, by decide +kernel, by decide +kernel, by decide +kernel⟩
theorem ugc : qu exPr = ⟨0, 1⟩ := by decide +kernel
theorem xp_why : nk exPr (g6 exPr) = [0] ∧ mr exPr (g6 exPr) = [] := ⟨by decide +kernel, by decide +kernel⟩
theorem xp_bound : mh exPr false 0 = 4 ∧ jt exPr false 0 = 0 ∧ mh exPr false 1 = 0 ∧ jt exPr false 1 = 0 ∧ mh exPr true 0 = 5 ∧ jt exPr true 0 = 0 := ⟨by decide +kernel, by decide +kernel, by decide +kernel, by decide +kernel, by decide +kernel, by decide +kernel⟩
theorem xp_chief : jd exPr 0 = [0, 1] ∧ iw exPr 0 = 0 ∧ jd exPr 1 = [] ∧ iw exPr 1 = 0 := ⟨by decide +kernel, by decide +kernel, by decide +kernel, by decide +kernel⟩
theorem ugb : mp exPr = [1, 0] := by
 have h0 : fp exPr 0 = 1 := by
  have := Net.pick_alone (N := bi exPr) (R := ck exPr) (C := cr exPr) (j := 0) (by decide +kernel) (by decide +kernel)
  exact this.trans (by decide +kernel)
 have h1 : fp exPr 1 = 0 := by
  have e : fp exPr 1 = (bi exPr).pick ((bi exPr).lessR (ck exPr) 0 1) (dq (cr exPr) 0) 1 := by
   show (bi exPr).pick ((bi exPr).lessR (ck exPr) 0 (fp exPr 0)) (dq (cr exPr) 0) 1 = _
   rw [h0]
  have := Net.pick_alone (N := bi exPr) (R := (bi exPr).lessR (ck exPr) 0 1) (C := dq (cr exPr) 0) (j := 1) (by decide +kernel) (by decide +kernel)
  exact e.trans (this.trans (by decide +kernel))
 unfold mp
 rw [um]
 show [fp exPr 0, fp exPr 1] = _
 rw [h0, h1]
end Go.AB
namespace Go.AB
open Go Go.RowKit
open Go.AB.Enc (cells)
open Go.PB (aw ai PlaceD ba bf bd bn aq af cj bj)
/-- who is found by one reader alone, so far -/
def f5 (F W : List PlaceD) (q : PlaceD) : Bool := decide (q ∈ F) != decide (q ∈ W)
theorem uj5 (F : List PlaceD) (q : PlaceD) : f5 F [] q = decide (q ∈ F) := by simp [f5]
theorem xu {l : List PlaceD} (h : l.Pairwise fun a b => ey (c4 a) (c4 b) < 0) : l.Nodup := h.imp fun {a b} hab e => by
 rw [ng (by rfl)] at hab
 subst e
 exact pa _ hab
theorem uhe {l : List PlaceD} (h : l.Nodup) {k : Nat} {q : PlaceD} (hq : l[k]? = some q) : q ∉ l.take k := fun hm => by
 obtain ⟨i, hi⟩ := List.getElem?_of_mem hm
 have hik : i < k := by have := (List.getElem?_eq_some_iff.1 hi).1; rw [List.length_take] at this; omega
 rw [List.getElem?_take_of_lt hik] at hi
 obtain ⟨h1, h2⟩ := List.getElem?_eq_some_iff.1 hi
 obtain ⟨h3, h4⟩ := List.getElem?_eq_some_iff.1 hq
 have := (List.pairwise_iff_getElem.1 h) i k h1 h3 hik
 exact this (h2.trans h4.symm)
/-- the place at hand is in the map if the first reader found it -/
theorem vm {F W : List PlaceD} (hW : W.Nodup) {k : Nat} {q : PlaceD} (hq : W[k]? = some q) : f5 F (W.take k) q = decide (q ∈ F) := by
 unfold f5
 rw [decide_eq_false (uhe hW hq)]
 cases decide (q ∈ F) <;> rfl
theorem uct {F W : List PlaceD} (hW : W.Nodup) {k : Nat} {q : PlaceD} (hq : W[k]? = some q) (x : PlaceD) : f5 F (W.take (k + 1)) x = bif decide (x = q) then !decide (q ∈ F) else f5 F (W.take k) x := by
 have hm : decide (x ∈ W.take (k + 1)) = (decide (x ∈ W.take k) || decide (x = q)) := by
  rw [List.take_add_one, hq, Option.toList_some, Bool.eq_iff_iff]
  simp
 by_cases e : x = q
 ·subst e
  unfold f5
  rw [hm, decide_eq_true (rfl : x = x), Bool.or_true, cond_true]
  cases decide (x ∈ F) <;> rfl
 ·unfold f5
  rw [hm, decide_eq_false e, Bool.or_false, cond_false]
/-- what both found so far -/
def mi (F W : List PlaceD) (k : Nat) : List PlaceD := (W.take k).filter fun q => decide (q ∈ F)
theorem uff {F W : List PlaceD} {k : Nat} {q : PlaceD} (hq : W[k]? = some q) : mi F W (k + 1) = mi F W k ++ bif decide (q ∈ F) then [q] else [] := by
 unfold mi
 rw [List.take_add_one, hq, Option.toList_some, List.filter_append]
 cases h : decide (q ∈ F) <;> simp [h]
theorem ufg (F W : List PlaceD) (k : Nat) : (mi F W k).length ≤ W.length := by
 unfold mi
 have := List.length_filter_le (fun q => decide (q ∈ F)) (W.take k)
 rw [List.length_take] at this
 omega
theorem unr {p : af} {last : Int} {x : aq} (h : lz p last x) : mi x.found x.well x.well.length = d7 p.text x := by
 have hs : (mi x.found x.well x.well.length).Pairwise fun a b => ey (c4 a) (c4 b) < 0 := by
  unfold mi
  rw [List.take_length]
  exact (wr h.well).filter _
 refine uy hs (wt _) fun q => ?_
 unfold mi
 rw [List.take_length, List.mem_filter, decide_eq_true_eq]
 show _ ↔ q ∈ (gi p.text).filter _
 rw [List.mem_filter, Bool.and_eq_true, decide_eq_true_eq, decide_eq_true_eq, allQ_mem]
 exact ⟨fun ⟨h1, h2⟩ => ⟨(ma h.well h1).1, h2, h1⟩, fun ⟨_, h2, h3⟩ => ⟨h3, h2⟩⟩
/-- both's places, and those of one alone in any order, put in order: all that are found -/
theorem ufx {p : af} {last : Int} {x : aq} (h : lz p last x) {ks s : List PlaceD} (hn : ks.Nodup) (hk : ∀ q, q ∈ ks ↔ f5 x.found x.well q = true) (hp : s.Perm (d7 p.text x ++ ks)) (hs : s.Pairwise fun a b => ¬ ey (c4 b) (c4 a) < 0) : s = dm p.text x := by
 have hmb : ∀ q, q ∈ d7 p.text x ↔ q ∈ x.found ∧ q ∈ x.well := fun q => by
  show q ∈ (gi p.text).filter _ ↔ _
  rw [List.mem_filter, Bool.and_eq_true, decide_eq_true_eq, decide_eq_true_eq, allQ_mem]
  exact ⟨fun h => h.2, fun h2 => ⟨(ma h.well h2.2).1, h2⟩⟩
 have hko : ∀ q, f5 x.found x.well q = true ↔ (q ∈ x.found ∧ q ∉ x.well) ∨ (q ∉ x.found ∧ q ∈ x.well) := fun q => by
  unfold f5
  by_cases h1 : q ∈ x.found <;> by_cases h2 : q ∈ x.well <;> simp [h1, h2]
 have hnd : (d7 p.text x ++ ks).Nodup := by
  rw [List.nodup_append]
  refine ⟨xu (wt _), hn, fun a ha b hb e => ?_⟩
  subst e
  have h1 := (hmb a).1 ha
  rcases (hko a).1 ((hk a).1 hb) with h2 | h2
  ·exact h2.2 h1.2
  ·exact h2.1 h1.1
 have hsn : s.Nodup := hp.nodup_iff.2 hnd
 have hs2 : s.Pairwise fun a b => ey (c4 a) (c4 b) < 0 := by
  have := List.Pairwise.and hs hsn
  refine this.imp fun {a b} hab => ?_
  rw [ng (by rfl)] at hab ⊢
  refine Classical.byContradiction fun hno => hab.2 ?_
  exact ul1 (y6 (by rfl) hno hab.1)
 refine uy hs2 (wt _) fun q => ?_
 rw [hp.mem_iff, List.mem_append, hmb, hk, hko]
 show _ ↔ q ∈ (gi p.text).filter _
 rw [List.mem_filter, Bool.or_eq_true, decide_eq_true_eq, decide_eq_true_eq, allQ_mem]
 constructor
 ·rintro (⟨h1, h2⟩ | ⟨h1, _⟩ | ⟨_, h2⟩)
  ·exact ⟨(ma h.found h1).1, .inl h1⟩
  ·exact ⟨(ma h.found h1).1, .inl h1⟩
  ·exact ⟨(ma h.well h2).1, .inr h2⟩
 ·rintro ⟨_, h1 | h1⟩
  ·by_cases h2 : q ∈ x.well
   ·exact .inl ⟨h1, h2⟩
   ·exact .inr (.inl ⟨h1, h2⟩)
  ·by_cases h2 : q ∈ x.found
   ·exact .inl ⟨h2, h1⟩
   ·exact .inr (.inr ⟨h2, h1⟩)
/-! ### The words of a page, line by line -/
def ji (t : ai) (x : aq) (l : List PlaceD) : Nat := (l.filter (gz t x)).length
theorem uas (t : ai) (x : aq) {k n : Nat} {c : aw} {l : List ByteArray} (hn : c.lines[n]? = some l) : ji t x (ij t k c.lines (n + 1)) = ji t x (ij t k c.lines n) + bif inB ((fk t k : Int) + (n : Int)) x.fr x.to then l.length else 0 := by
 have e : ij t k c.lines (n + 1) = ij t k c.lines n ++ (kd k n l).map (·.1) := by
  unfold ij
  rw [ufb k hn, List.map_append, List.append_assoc]
 unfold ji
 rw [e, List.filter_append, List.length_append]
 congr 1
 have hall : ∀ q ∈ (kd k n l).map (·.1), gz t x q = inB ((fk t k : Int) + (n : Int)) x.fr x.to := fun q hq => by
  obtain ⟨y, hy, rfl⟩ := List.mem_map.1 hq
  obtain ⟨w, hw, rfl⟩ := List.mem_mapIdx.1 hy
  show inB (qb t ⟨(k : Int), (n : Int), (w : Int)⟩) x.fr x.to = _
  unfold qb
  dsimp only
  rw [Int.toNat_natCast, Int.add_comm]
 have hlen : ((kd k n l).map (·.1)).length = l.length := by rw [List.length_map]; unfold kd; rw [List.length_mapIdx]
 cases hb : inB ((fk t k : Int) + (n : Int)) x.fr x.to
 ·rw [List.filter_eq_nil_iff.2 fun q hq => by rw [hall q hq, hb]; simp]; rfl
 ·rw [List.filter_eq_self.2 fun q hq => by rw [hall q hq, hb], hlen]; rfl
theorem ugo (t : ai) (x : aq) : ji t x (gi t) = el t x := rfl
end Go.AB
namespace Go.AB
open Go Go.RowKit
open Go.AB.Enc (cells)
open Go.PB (aw ai PlaceD ba bf bd bn aq af cj bj)
section
variable {N : Net} {R C : Nat → Int}
end
/-- proofs with readers who miss less -/
structure LessMiss (p q : af) : Prop where
 text : q.text = p.text
 pages : q.pages = p.pages
 nf : q.firsts.length = p.firsts.length
 ns : q.seconds.length = p.seconds.length
 miss : ∀ b i, jm q b i ≤ jm p b i
 ids : (q.firsts ++ q.seconds).map (·.id) = (p.firsts ++ p.seconds).map (·.id)
 ok : ∀ r ∈ q.firsts ++ q.seconds, ge r = true
theorem LessMiss.net {p q : af} (h : LessMiss p q) : bi q = bi p := by
 unfold bi bv
 rw [h.nf, h.ns, h.pages]
theorem LessMiss.cap {p q : af} (h : LessMiss p q) : cr q = cr p := by
 funext j
 unfold cr j2
 rw [h.pages, h.text]
theorem LessMiss.left {p q : af} (h : LessMiss p q) (hp : dg p) (i : Nat) : ck q i ≤ ck p i := by
 have key : ∀ b k, k8 q b k ≤ k8 p b k := fun b k => by
  have h1 := yx hp b k
  have h2 := h.miss b k
  unfold k8 cw
  rw [h.pages, h.text]
  have := umu (a := 100 * ((d8 p.pages (gm b k) : Nat) : Int)) (b := 100 - jm p b k) (c := 100 - jm q b k) (by omega) (by omega) (by omega)
  omega
 unfold ck
 rw [h.nf]
 cases decide (i < p.firsts.length)
 ·exact key _ _
 ·exact key _ _
theorem LessMiss.alone {p q : af} (h : LessMiss p q) (hp : dg p) (j : Nat) : (bi q).alone (ck q) (cr q) j ≤ (bi p).alone (ck p) (cr p) j := by
 rw [h.net, h.cap]
 exact Net.alone_mono (o7 hp) (fun i _ => h.left hp i) j
end Go.AB
namespace Go.PB
structure cz where
 readers : List Int
 pages : List Int
 read : List (List Int)
/-- the reference's: readers and pages alone -/
structure c5 where
 readers : List Int
 pages : List Int
end Go.PB
namespace Go.AB
open Go Go.RowKit
open Go.AB.Enc (cells)
open Go.PB (aw ai PlaceD ba bf bd bn aq af cj bj cz c5)
instance : Enc cz := ⟨fun x => [lst x.readers, lst x.pages, lst x.read], 3, fun _ => rfl, fun m x c h => by
 simp only [List.mem_cons, List.not_mem_nil, or_false] at h
 rcases h with rfl | rfl | rfl
 ·exact br m _
 ·exact br m _
 ·exact br m _, fun x c h => by
 simp only [List.mem_cons, List.not_mem_nil, or_false] at h; rcases h with rfl | rfl | rfl <;> rfl⟩
def f4 (p : af) (R C : Nat → Int) : cz := ⟨bh (bv p) R, bh p.pages.length C, p.pages.map (dd p)⟩
/-- numbers that no sum of takes too far -/
structure Bd (p : af) (R C : Nat → Int) : Prop where
 r : ∀ i, -1000000 ≤ R i ∧ R i ≤ 1000000
 c : ∀ j, 0 ≤ C j ∧ C j ≤ 1000000
 nr : bv p ≤ 6
 np : p.pages.length ≤ 8
theorem ug {p : af} (h : dg p) : Bd p (ck p) (cr p) := ⟨fun i => by have := ulh h i; omega, fun j => by have := w4 h j; omega, by have := h.nf; have := h.ns; unfold bv; omega, h.np⟩
/-- what some first readers of a set have -/
def fR (R : Nat → Int) (S : Nat → Bool) (i : Nat) : Int := sm i fun k => bif S k then R k else 0
def fC (p : af) (C : Nat → Int) (S : Nat → Bool) (j : Nat) : Int := sm j fun k => bif (bi p).hit S k then 0 else C k
theorem uej (p : af) (R C : Nat → Int) (S : Nat → Bool) : (bi p).f R C S = fR R S (bv p) + fC p C S p.pages.length := rfl
theorem uz {g : Nat → Int} {m : Int} (h : ∀ i, -m ≤ g i ∧ g i ≤ m) : ∀ n : Nat, -(n * m) ≤ sm n g ∧ sm n g ≤ n * m
 | 0 => by simp [sm]
 | n + 1 => by
  have h1 := uz h n
  have h2 := h n
  have e : ((n + 1 : Nat) : Int) * m = (n : Int) * m + m := by rw [Int.natCast_add, Int.add_mul]; simp
  simp only [sm]
  omega
theorem zq {p : af} {R C : Nat → Int} (h : Bd p R C) (S : Nat → Bool) (i : Nat) (hi : i ≤ bv p) : -6000000 ≤ fR R S i ∧ fR R S i ≤ 6000000 := by
 have := uz (g := fun k => bif S k then R k else 0) (m := 1000000) (fun k => by cases S k; simp; exact h.r k) i
 have := h.nr
 unfold fR
 omega
theorem ueo {p : af} {R C : Nat → Int} (h : Bd p R C) (S : Nat → Bool) (j : Nat) (hj : j ≤ p.pages.length) : 0 ≤ fC p C S j ∧ fC p C S j ≤ 8000000 := by
 have h1 := uz (g := fun k => bif (bi p).hit S k then 0 else C k) (m := 1000000) (fun k => by have := h.c k; cases (bi p).hit S k; simp; omega; simp) j
 have h2 := ubd (n := j) (g := fun k => bif (bi p).hit S k then 0 else C k) fun k _ => by have := h.c k; cases (bi p).hit S k; exact this.1; exact Int.le_refl _
 have := h.np
 unfold fC
 omega
theorem f_bd {p : af} {R C : Nat → Int} (h : Bd p R C) (S : Nat → Bool) : -6000000 ≤ (bi p).f R C S ∧ (bi p).f R C S ≤ 14000000 := by
 have h1 := zq h S _ (Nat.le_refl _)
 have h2 := ueo h S _ (Nat.le_refl _)
 rw [uej]
 omega
theorem uc9 {g : Nat → Int} {a b : Int} (h : ∀ s, a ≤ g s ∧ g s ≤ b) (k : Nat) : a ≤ lu g k ∧ lu g k ≤ b := by
 obtain ⟨s, _, e⟩ := yy (g := g) k
 rw [e]
 exact h s
theorem uc6 {p : af} {R C : Nat → Int} (h : Bd p R C) : -6000000 ≤ (bi p).most R C ∧ (bi p).most R C ≤ 14000000 := uc9 (fun s => f_bd h _) _
end Go.AB
namespace Go.AB
open Go Go.RowKit
open Go.AB.Enc (cells)
section
variable {P : Program} {o : Oper} {st : St} {K : St → Prop}
end
end Go.AB
namespace Go.AB
open Go Go.RowKit Go.Shelf Go.Proofs
open Go.AB.Enc (cells)
section
variable {P : Program} {o : Oper} {st : St} {K : St → Prop}
theorem ujx {E : Env} {w : World} {v : Value} {n ver len : Nat} (hp : R E w (.own n ver len) v) : ∃ a cap, v = .slice a len cap ∧ n < E.nx ∧ len ≤ cap ∧ cap ≤ maxLen ∧ ∀ ver' wv val, E.T n = some (ver', wv, val) → ver ≤ ver' ∧ (ver = ver' → ∃ m, len ≤ m ∧ val = .slice a m cap) := by
 cases hp with
 | own h1 h2 h3 h4 => exact ⟨_, _, rfl, h1, h2, h3, h4⟩
/-- append of nothing onto an own slice. -/
theorem uko {t e : TypeId} {sz bytes n ver m : Nat} [AppT P t e sz bytes] {s x : Operand} {tk : Tok} (ho : o.op = .call { callee := .builtin .append, args := #[s, x], argTypes := #[t, t] }) (hs : evC st s = .own n ver m) (hx : evC st x = .list [] tk) : NStep P o st (.own n ver m) := fun E w a hsim => by
 obtain ⟨ht, i, z, hie, hz, h1, h2, h3⟩ := AppT.spec (P := P) (t := t) (e := e) (sz := sz) (bytes := bytes)
 have hown := hs ▸ hsim.ev s
 obtain ⟨ad, cap, e1, q1, q2, q3, q4⟩ := ujx hown
 obtain ⟨ao, c, _, _, e3, _⟩ := (hx ▸ hsim.ev x).list_inv
 refine ⟨a.eval s, hown, fun w' => ?_⟩
 have hrun := sv (P := P) w' t o.type e i ht hie ad ao m cap c q2
 simp only [execOp, ho, resolve, invoke, builtin, Sem.run_bind, Sem.run_pure, Result.andThen_ok, List.map_toArray, List.map_cons, List.map_nil, e1, e3]
 rw [List.length_nil] at *
 rw [hrun]; rfl
/-- append of data onto an own slice. -/
theorem ww {α : Type} [Enc α] {t e : TypeId} {bytes n ver wv : Nat} [AppT P t e (Enc.n α) bytes] {s x : Operand} {tk : Tok} {rows : List (List C)} {xs : List α} {m : Nat} {cs : List C} (ys : List α) (ho : o.op = .call { callee := .builtin .append, args := #[s, x], argTypes := #[t, t] }) (hs : evC st s = .own n ver m) (hG : st.G n = some (.arr ver wv e (Enc.n α) m cs)) (hc : cs = dh xs) (hm : m = xs.length) (hx : evC st x = .list rows tk) (hy : rows = ys.map cells) (hb : (xs.length + ys.length) * bytes ≤ 140737488355328) (hmax : xs.length + ys.length ≤ 9223372036854775807)
  (h : ∀ v : Nat, K (St.put { st with G := ak st.G n (.arr v wv e (Enc.n α) (xs ++ ys).length (dh (xs ++ ys))) } o.dst (.own n v (xs ++ ys).length))) : EStep P o st K := by
 subst hc; subst hm; subst hy
 by_cases h0 : ys = []
 ·subst h0
  have h1 := h ver
  simp only [List.append_nil] at h1
  have h2 : ak st.G n (.arr ver wv e (Enc.n α) xs.length (dh xs)) = st.G := by
   funext k
   simp only [ak]
   split
   ·rename_i e; rw [e, hG]
   ·rfl
  rw [h2] at h1
  exact SStep.e' (NStep.s (D := fun _ => True) (uko ho hs hx)) h1
 ·refine um3 ho hs hG hx (l7 ys) (by simpa using hb) (by simpa using hmax) (by simpa using h0) ?_
  have h1 := h (ver + 1)
  rw [uee] at h1
  simpa [dh] using h1
end
end Go.AB
namespace Go.AB
open Go Go.RowKit
open Go.AB.Enc (cells)
open Go.PB (aw ai PlaceD ba bf bd bn aq af cj bj cz c5)
/-- the first of some numbers that is not nought -/
def orN (xs : List Int) : Int := (xs.find? fun x => !decide (x = 0)).getD 0
theorem ujz {xs : List Int} {k : Nat} {x : Int} (hx : xs[k]? = some x) (hne : x ≠ 0) (h : ∀ y ∈ xs.take k, y = 0) : orN xs = x := by
 unfold orN
 rw [List.find?_eq_some_iff_append.2 ⟨by simpa using hne, xs.take k, xs.drop (k + 1), ?_, fun y hy => by simp [h y hy]⟩]
 ·rfl
 obtain ⟨h1, h2⟩ := List.getElem?_eq_some_iff.1 hx
 rw [← h2, ← List.drop_eq_getElem_cons h1, List.take_append_drop]
theorem uj1 {xs : List Int} (h : ∀ y ∈ xs, y = 0) : orN xs = 0 := by
 unfold orN
 rw [List.find?_eq_none.2 fun y hy => by simp [h y hy]]
 rfl
theorem ukw {α : Type} {l : List α} {k : Nat} {x : α} {p : α → Prop} (hx : l[k]? = some x) (hp : p x) (h : ∀ y ∈ l.take k, p y) : ∀ y ∈ l.take (k + 1), p y := fun y hy => by
 rw [List.take_add_one, hx] at hy
 simp only [Option.toList_some, List.mem_append, List.mem_singleton] at hy
 rcases hy with hy | rfl
 ·exact h y hy
 exact hp
def lm (a b : PlaceD) : Int := ey (c4 a) (c4 b)
theorem uj0 (a b : PlaceD) : orN [g9 a.ch b.ch, g9 a.ln b.ln, g9 a.wd b.wd] = lm a b := by
 unfold orN lm c4
 simp only [ey]
 by_cases h1 : g9 a.ch b.ch = 0
 ·by_cases h2 : g9 a.ln b.ln = 0
  ·by_cases h3 : g9 a.wd b.wd = 0 <;> simp [h1, h2, h3]
  simp [h1, h2]
 simp [h1]
/-- the order of lists, shorter ones first -/
def xz (a b : List Int) : Int := orN [(a.length : Int) - (b.length : Int), ey a b]
theorem u7 (a b : List Int) : decide (xz a b < 0) = gt a b := by
 unfold xz orN gt
 by_cases h1 : (a.length : Int) - (b.length : Int) = 0
 ·have h2 : a.length = b.length := by omega
  have h3 : ¬ a.length < b.length := by omega
  by_cases h4 : ey a b = 0
  ·simp [h2, h4]
  simp [h2, h4]
 have h2 : ¬ a.length = b.length := by omega
 by_cases h3 : a.length < b.length
 ·have : (a.length : Int) - (b.length : Int) < 0 := by omega
  simp [h1, h2, h3, this]
 have : ¬ (a.length : Int) - (b.length : Int) < 0 := by omega
 simp [h1, h2, h3, this]
def l4 (t : ai) (k : Nat) : List Int := (List.range k).map fun i => (fk t i : Int)
theorem ua7 (t : ai) (k : Nat) : (l4 t k).length = k := by simp [l4]
theorem ua8 {t : ai} {k i : Nat} (h : i < k) : (l4 t k)[i]? = some (fk t i : Int) := by simp [l4, h]
theorem uhr (t : ai) (k : Nat) : l4 t (k + 1) = l4 t k ++ [(fk t k : Int)] := by
 unfold l4
 rw [List.range_succ, List.map_append]; rfl
theorem uw {t : ai} (ht : dp t = true) (k : Nat) (hk : k ≤ t.length) : fk t k ≤ 60 := by
 obtain ⟨h1, h2, h3⟩ := li ht
 have key : ∀ k, k ≤ t.length → fk t k ≤ 10 * k := by
  intro k
  induction k with
  | zero => intro _; rw [ua9]; exact Nat.zero_le _
  | succ k ih =>
   intro hk
   have hc : t[k]? = some t[k] := List.getElem?_eq_getElem (by omega)
   rw [sq hc]
   have := ih (by omega)
   have := (h3 _ (fm hc)).2.1
   omega
 have := key k hk
 omega
end Go.AB
namespace Go.Proofs.YtbbdginipiljdaaGreatDoor
set_option maxRecDepth 10000
open Go.RowKit Go.AB
open Go.AB.Enc (cells)
open Go.PB (aw ai PlaceD ba bf bd bn aq af cj bj cz c5)
theorem uci (xs : List Int) : Pure Tryz.prog 92 [lst xs] (.v (.int .i64 (orN xs))) := by
 refine ct Tryz.func92 rfl (fun m => .v) fun G nx => ?_
 simp only [Tryz.ntmps92, List.length_cons, List.length_nil, Nat.reduceAdd, Nat.reduceSub]
 refine bu fun hlt => ?_
 dsimp only at hlt
 refine ki 0 (fun hf => ?_)
 replace hf := (fit_lst.1 hf).1
 refine yS fun _ K1 => ?_
 refine yR ?_
 refine yA rfl rfl ?_
 refine yN ?_
 dsimp only [St.put]
 refine K1 _ ?_
 refine yS fun _ K2 => ?_
 refine yR ?_
 refine yA rfl rfl ?_
 refine yN ?_
 dsimp only [St.put]
 refine K2 _ ?_
 refine yS fun _ K3 => ?_
 refine yS fun _ K4 => ?_
 refine yR ?_
 refine yM rfl rfl ?_
 refine aa rfl (bg rfl rfl (List.length_map _)) ?_
 refine yM rfl rfl ?_
 refine yN ?_
 dsimp only [St.put]
 refine K4 _ ?_
 refine az ?_
 refine ce 9 ?_
 refine zQ ?_
 refine cy (G) zX ?_
 dsimp only
 refine cx (X := Nat) (fun k => k ≤ xs.length ∧ ∀ y ∈ xs.take k, y = 0) (fun k => xs.length - k) (fun k => [(4, .any), (5, .any), (8, .v (.int .i64 (k : Int)))]) (fun k G' => G') 0 rfl ?_ ?_ (fun _ _ h => h) ?_ ?_ ?_
 ·exact ⟨by simp, by simp⟩
 ·exact zF
 ·rintro k hI
  exact zL
 ·exact fun _ _ _ _ h => .inl h
 rintro k hI
 dsimp only at hI ⊢
 refine yS fun _ K5 => ?_
 refine yR ?_
 refine aa rfl (cb rfl rfl rfl) ?_
 refine yN ?_
 dsimp only [St.put]
 refine K5 _ ?_
 refine yS fun _ K6 => ?_
 refine am rfl (fun hc => ?_) (fun hc => ?_)
 ·replace hc := of_decide_eq_true hc
  obtain ⟨x, hx⟩ : ∃ x, xs[k]? = some x := c7 (by omega)
  refine av ?_
  refine K6 _ ?_
  refine yS fun _ K7 => ?_
  refine az ?_
  refine yS fun _ K8 => ?_
  refine yR ?_
  refine aa rfl (bp rfl rfl rfl rfl (bk (by assumption)) (Enc.len _)) ?_
  refine yL rfl rfl rfl ?_
  refine yA rfl rfl ?_
  refine yN ?_
  dsimp only [St.put]
  refine K8 _ ?_
  refine yS fun _ K9 => ?_
  refine yR ?_
  refine yM rfl rfl ?_
  refine yM rfl rfl ?_
  refine aa rfl (et rfl rfl rfl) ?_
  refine yN ?_
  dsimp only [St.put]
  refine K9 _ ?_
  refine am rfl (fun hc => ?_) (fun hc => ?_)
  ·replace hc := i9 hc
   refine yS fun _ K10 => ?_
   refine yR ?_
   refine yM rfl rfl ?_
   refine yA rfl rfl ?_
   refine yN ?_
   dsimp only [St.put]
   refine K10 _ ?_
   refine ar ?_
   refine bc rfl (by constructor) zN zS ?_
   exact vi (ujz hx hc hI.2).symm
  replace hc := g3 hc
  refine av ?_
  refine K7 _ ?_
  refine yR ?_
  refine aa rfl (bq rfl rfl rfl (by omega)) ?_
  refine yM rfl rfl ?_
  refine yN ?_
  dsimp only [St.put]
  exact ⟨k + 1, by omega, ⟨by omega, ukw hx hc hI.2⟩, ⟨⟨rfl, rfl⟩, zF, zB, zN, zX⟩⟩
 try replace hc := of_decide_eq_false hc
 refine cv ?_
 refine K3 _ ?_
 refine yS fun _ K11 => ?_
 refine yR ?_
 refine yM rfl rfl ?_
 refine yA rfl rfl ?_
 refine yN ?_
 dsimp only [St.put]
 refine K11 _ ?_
 refine ar ?_
 refine bc rfl (by constructor) zN zS ?_
 exact vi (by
  rw [uj1]
  have := hI.2
  rwa [fu (by omega)] at this)
theorem ujr (n lo hi : Int) : Pure Tryz.prog 96 [.v (.int .i64 n), .elem [.v (.int .i64 lo)], .elem [.v (.int .i64 hi)]] (.v (.bool (l6 n lo hi))) := by
 refine ct Tryz.func96 rfl (fun m => .v) fun G nx => ?_
 simp only [Tryz.ntmps96, List.length_cons, List.length_nil, Nat.reduceAdd, Nat.reduceSub]
 refine bu fun hlt => ?_
 dsimp only at hlt
 refine yS fun _ K1 => ?_
 refine yR ?_
 refine yA rfl rfl ?_
 refine yN ?_
 dsimp only [St.put]
 refine K1 _ ?_
 refine yS fun _ K2 => ?_
 refine yR ?_
 refine yM rfl rfl ?_
 refine yL rfl rfl rfl ?_
 refine aa rfl (cb rfl rfl rfl) ?_
 refine em (fun hs => ?_) (fun hs => ?_)
 ·try replace hs := of_decide_eq_true hs
  refine yM rfl rfl ?_
  refine yK rfl ?_
  refine yK rfl ?_
  refine yK rfl ?_
  refine aa rfl (bw rfl rfl (by constructor)) ?_
  refine yA rfl rfl ?_
  refine yN ?_
  dsimp only [St.put]
  refine K2 _ ?_
  refine ar ?_
  refine bc rfl (by constructor) zN zS ?_
  exact vb (by simp [l6, hs]; try omega)
 try replace hs := of_decide_eq_false hs
 refine yM rfl rfl ?_
 refine yM rfl rfl ?_
 refine yL rfl rfl rfl ?_
 refine aa rfl (g4 rfl rfl rfl) ?_
 refine aa rfl (cm rfl rfl (by constructor)) ?_
 refine yA rfl rfl ?_
 refine yN ?_
 dsimp only [St.put]
 refine K2 _ ?_
 refine ar ?_
 refine bc rfl (by constructor) zN zS ?_
 exact vb (by simp [l6, hs]; try omega)
theorem mz (lo hi : Int) (xs : List Int) : Pure Tryz.prog 76 [.v (.int .i64 lo), .v (.int .i64 hi), lst xs] (.v (.bool (we lo hi xs))) := by
 refine ct Tryz.func76 rfl (fun m => .v) fun G nx => ?_
 simp only [Tryz.ntmps76, List.length_cons, List.length_nil, Nat.reduceAdd, Nat.reduceSub]
 refine bu fun hlt => ?_
 dsimp only at hlt
 refine yS fun _ K1 => ?_
 refine yR ?_
 try dsimp only [St.put]
 refine yB rfl rfl rfl ?_
 try dsimp only [St.put]
 refine yB rfl rfl rfl ?_
 refine yA rfl rfl ?_
 refine yN ?_
 dsimp only [St.put]
 refine K1 _ ?_
 refine yS fun _ K2 => ?_
 refine yR ?_
 refine yM rfl rfl ?_
 refine aa rfl (p8 rfl rfl) ?_
 try dsimp only [St.put]
 refine ae rfl (ax rfl rfl rfl (xd xs (fun n => l6 n lo hi) _ _ fun x _ => ujr x lo hi) ?_)
 refine aa rfl (dl rfl rfl) ?_
 refine yA rfl rfl ?_
 refine yN ?_
 dsimp only [St.put]
 refine K2 _ ?_
 refine ar ?_
 refine bc rfl (by constructor) zN zS ?_
 rfl
theorem yg (a b : PlaceD) : Pure Tryz.prog 84 [val a, val b] (.v (.int .i64 (lm a b))) := by
 refine ct Tryz.func84 rfl (fun m => .v) fun G nx => ?_
 simp only [Tryz.ntmps84, List.length_cons, List.length_nil, Nat.reduceAdd, Nat.reduceSub]
 refine bu fun hlt => ?_
 dsimp only at hlt
 refine yS fun _ K1 => ?_
 refine yR ?_
 try dsimp only [St.put]
 refine yB rfl rfl rfl ?_
 try dsimp only [St.put]
 refine yB rfl rfl rfl ?_
 refine yA rfl rfl ?_
 refine yN ?_
 dsimp only [St.put]
 refine K1 _ ?_
 refine yS fun _ K2 => ?_
 refine gu [(0, none), (1, none), (2, none), (3, none), (5, none), (6, none), (7, none), (8, none), (10, none), (11, none), (12, none), (13, none), (4, none), (9, none), (14, none), (15, none), (16, none), (17, none)] (fun i => [14, 15, 16].contains i) (fun i => [4, 9, 14, 15, 16].contains i) (fun i => [0, 2, 5, 7, 10, 12, 17].contains i) [] (by kernel_rfl) (by kernel_rfl) ?_
 refine ah rfl rfl rfl rfl (co rfl rfl rfl) ?_
 try dsimp only [St.put]
 refine ay rfl rfl rfl rfl (ca rfl rfl) ?_
 refine ah rfl rfl rfl rfl (co rfl rfl rfl) ?_
 try dsimp only [St.put]
 refine ay rfl rfl rfl rfl (ca rfl rfl) ?_
 refine ah rfl rfl rfl rfl (co rfl rfl rfl) ?_
 try dsimp only [St.put]
 refine ay rfl rfl rfl rfl (ca rfl rfl) ?_
 refine ah rfl rfl rfl rfl (co rfl rfl rfl) ?_
 try dsimp only [St.put]
 refine ay rfl rfl rfl rfl (ca rfl rfl) ?_
 refine ah rfl rfl rfl rfl (co rfl rfl rfl) ?_
 try dsimp only [St.put]
 refine ay rfl rfl rfl rfl (ca rfl rfl) ?_
 refine ah rfl rfl rfl rfl (co rfl rfl rfl) ?_
 try dsimp only [St.put]
 refine ay rfl rfl rfl rfl (ca rfl rfl) ?_
 refine jg ?_
 try dsimp only [St.put]
 refine jz rfl rfl rfl (ax rfl rfl rfl (wy _ _) ⟨zD, ?_⟩)
 try dsimp only [St.put]
 refine jz rfl rfl rfl (ax rfl rfl rfl (wy _ _) ⟨zD, ?_⟩)
 try dsimp only [St.put]
 refine il rfl rfl rfl rfl (ax rfl rfl rfl (wy _ _) ?_)
 try dsimp only [St.put]
 refine il rfl rfl rfl rfl (dj rfl rfl rfl (by decide) (by decide) zR (by decide) ?_)
 try dsimp only [St.put]
 refine il rfl rfl rfl rfl (ax rfl rfl rfl (uci [g9 a.ch b.ch, g9 a.ln b.ln, g9 a.wd b.wd]) ?_)
 refine ef rfl rfl rfl rfl (fh rfl (by constructor)) ?_
 refine jf ?_
 dsimp only [St.put]
 refine K2 _ ?_
 refine ar ?_
 refine bc rfl (by constructor) zN zS ?_
 exact vi (uj0 a b)
theorem ujm (a b : List Int) (ha : a.length ≤ 1000) (hb : b.length ≤ 1000) : Pure Tryz.prog 57 [lst a, lst b] (.v (.int .i64 (xz a b))) := by
 refine ct Tryz.func57 rfl (fun m => .v) fun G nx => ?_
 simp only [Tryz.ntmps57, List.length_cons, List.length_nil, Nat.reduceAdd, Nat.reduceSub]
 refine bu fun hlt => ?_
 dsimp only at hlt
 refine yS fun _ K1 => ?_
 refine yR ?_
 refine yA rfl rfl ?_
 refine yN ?_
 dsimp only [St.put]
 refine K1 _ ?_
 refine yS fun _ K2 => ?_
 refine yR ?_
 refine yM rfl rfl ?_
 refine aa rfl (bg rfl rfl (List.length_map _)) ?_
 refine yM rfl rfl ?_
 refine aa rfl (bg rfl rfl (List.length_map _)) ?_
 refine aa rfl (f7 rfl rfl rfl (by omega)) ?_
 refine yM rfl rfl ?_
 refine yM rfl rfl ?_
 try dsimp only [St.put]
 refine ae rfl (ax rfl rfl rfl (um8 a b ha hb) ?_)
 try dsimp only [St.put]
 refine ae rfl (dj rfl rfl rfl (by decide) (by decide) zR (by decide) ?_)
 try dsimp only [St.put]
 refine ae rfl (ax rfl rfl rfl (uci [(a.length : Int) - (b.length : Int), ey a b]) ?_)
 refine yA rfl rfl ?_
 refine yN ?_
 dsimp only [St.put]
 refine K2 _ ?_
 refine ar ?_
 refine bc rfl (by constructor) zN zS ?_
 rfl
theorem ujl (t : ai) (q : PlaceD) (ht : dp t = true) : Pure Tryz.prog 83 [i1 t, val q] (.v (.bool (ff t q))) := by
 refine ct Tryz.func83 rfl (fun m => .v) fun G nx => ?_
 simp only [Tryz.ntmps83, List.length_cons, List.length_nil, Nat.reduceAdd, Nat.reduceSub]
 refine bu fun hlt => ?_
 dsimp only at hlt
 obtain ⟨hl1, hl2, hl3⟩ := li ht
 refine yS fun _ K1 => ?_
 refine yR ?_
 try dsimp only [St.put]
 refine yB rfl rfl rfl ?_
 try dsimp only [St.put]
 refine yB rfl rfl rfl ?_
 refine yA rfl rfl ?_
 refine yN ?_
 dsimp only [St.put]
 refine K1 _ ?_
 refine yS fun _ K2 => ?_
 refine ce 5 ?_
 refine zQ ?_
 refine kj (X := Bool) (fun b => b = !(gx t (q.ch, q.ln)).isSome) (fun b => [(29, .v (.bool b))]) (fun b G' => G') rfl ?_ (fun _ _ _ _ h => .inl h) ?_ ?_
 ·rintro b hI
  exact zL
 ·refine ry [(0, none), (1, none), (2, none), (3, none), (4, none), (5, none)] (fun _ => false) (fun i => [0, 2, 3, 4].contains i) 19 (rl [6, 19]) (by kernel_rfl) (by kernel_rfl) ?_
  refine ah rfl rfl rfl rfl (co rfl rfl rfl) ?_
  try dsimp only [St.put]
  refine ay rfl rfl rfl rfl (ca rfl rfl) ?_
  refine ah rfl rfl rfl rfl (bg rfl rfl (List.length_map _)) ?_
  refine ah rfl rfl rfl rfl (f7 rfl rfl rfl (by omega)) ?_
  refine ah rfl rfl rfl rfl (co rfl rfl rfl) ?_
  try dsimp only [St.put]
  refine ay rfl rfl rfl rfl (ca rfl rfl) ?_
  refine ci ?_
  refine dv [6] (by kernel_rfl) (by simp) ?_
  refine du ?_ ?_
  ·try dsimp only [St.put]
   refine ir rfl rfl rfl (dj rfl rfl rfl (by decide) (by decide) zR (by decide) ?_)
   refine dv [7] (by kernel_rfl) (by simp) ?_
   refine du ?_ ?_
   ·try dsimp only [St.put]
    refine ir rfl rfl rfl (ax rfl rfl rfl (mz _ _ [_]) ?_)
    refine eh [(8, none), (9, none), (10, none), (11, none), (12, none), (13, none), (14, none), (15, none), (16, none), (17, none), (18, none), (19, none), (20, none)] (fun i => [8, 9, 10, 12, 14, 15, 17, 18, 19].contains i) 4 (rl [21, 4]) (by kernel_rfl) ?_
    refine ah rfl rfl rfl rfl (dl rfl rfl) ?_
    refine xM rfl rfl rfl rfl rfl ?_
    refine jr (fun hs => ?_) (fun hs => ?_)
    ·have h8 : inB q.ch 0 ((t.length : Int) - 1) = false := by rw [ga] at hs; simpa using hs
     refine aj rfl rfl rfl ?_
     refine aj rfl rfl rfl ?_
     refine aj rfl rfl rfl ?_
     refine aj rfl rfl rfl ?_
     refine aj rfl rfl rfl ?_
     refine aj rfl rfl rfl ?_
     refine aj rfl rfl rfl ?_
     refine aj rfl rfl rfl ?_
     refine aj rfl rfl rfl ?_
     refine aj rfl rfl rfl ?_
     refine aj rfl rfl rfl ?_
     refine ci ?_
     refine dv [21] (by kernel_rfl) (by simp) ?_
     refine du ?_ ?_
     ·refine fy rfl rfl rfl ?_
      refine dv [22] (by kernel_rfl) (by simp) ?_
      refine du ?_ ?_
      ·refine fy rfl rfl rfl ?_
       refine eh [(23, none), (24, none)] (fun i => [23, 24].contains i) 0 (rl [25]) (by kernel_rfl) ?_
       refine aj rfl rfl rfl ?_
       refine ah rfl rfl rfl rfl (bw rfl rfl (by constructor)) ?_
       refine ci ?_
       dsimp only [St.put]
       refine im (by kernel_rfl) ?_
       refine ⟨_, ?_, ⟨⟨rfl, rfl⟩, zF, zB, zN, zX⟩⟩
       rw [ur]
       (simp [h8]; done)
      exact dt
     exact dt
    have h8 : inB q.ch 0 ((t.length : Int) - 1) = true := by rw [ga] at hs; simpa using hs
    have hn1' := h8
    simp only [inB_true] at hn1'
    obtain ⟨c, hcx⟩ : ∃ c, t[q.ch.toNat]? = some c := c7 (by omega)
    have hnl : kx t q.ch = c.lines.length := by simp [kx, hcx]
    have hll := (hl3 c (fm hcx)).2.1
    have hch : q.ch = ((q.ch.toNat : Nat) : Int) := by omega
    refine ah rfl rfl rfl rfl (co rfl rfl rfl) ?_
    try dsimp only [St.put]
    refine ay rfl rfl rfl rfl (ca rfl rfl) ?_
    refine ah rfl rfl rfl rfl (co rfl rfl rfl) ?_
    try dsimp only [St.put]
    refine ay rfl rfl rfl rfl (ca rfl rfl) ?_
    try dsimp only [St.put]
    refine ah rfl rfl rfl rfl (bp rfl rfl rfl (by omega) (bk (by assumption)) (Enc.len _)) ?_
    refine ah rfl rfl rfl rfl (co rfl rfl rfl) ?_
    try dsimp only [St.put]
    refine ay rfl rfl rfl rfl (ca rfl rfl) ?_
    refine ah rfl rfl rfl rfl (bg rfl rfl (List.length_map _)) ?_
    refine ah rfl rfl rfl rfl (f7 rfl rfl rfl (by omega)) ?_
    refine ah rfl rfl rfl rfl (co rfl rfl rfl) ?_
    try dsimp only [St.put]
    refine ay rfl rfl rfl rfl (ca rfl rfl) ?_
    refine ci ?_
    refine dv [21] (by kernel_rfl) (by simp) ?_
    refine du ?_ ?_
    ·try dsimp only [St.put]
     refine ir rfl rfl rfl (dj rfl rfl rfl (by decide) (by decide) zR (by decide) ?_)
     refine dv [22] (by kernel_rfl) (by simp) ?_
     refine du ?_ ?_
     ·try dsimp only [St.put]
      refine ir rfl rfl rfl (ax rfl rfl rfl (mz _ _ [_]) ?_)
      refine eh [(23, none), (24, none)] (fun i => [23, 24].contains i) 0 (rl [25]) (by kernel_rfl) ?_
      refine ah rfl rfl rfl rfl (dl rfl rfl) ?_
      refine ah rfl rfl rfl rfl (cm rfl rfl (by constructor)) ?_
      refine ci ?_
      dsimp only [St.put]
      refine im (by kernel_rfl) ?_
      refine ⟨_, ?_, ⟨⟨rfl, rfl⟩, zF, zB, zN, zX⟩⟩
      rw [ur]
      (simp [h8, hnl, ga]; done)
     exact dt
    exact dt
   exact dt
  exact dt
 rintro b hst
 dsimp only at hst ⊢
 refine am rfl (fun hc => ?_) (fun hc => ?_)
 ·have hw : gx t (q.ch, q.ln) = none := by rw [hc] at hst; simpa using hst.symm
  refine yS fun _ K4 => ?_
  refine yR ?_
  refine yA rfl rfl ?_
  refine yN ?_
  dsimp only [St.put]
  refine K4 _ ?_
  refine ar ?_
  refine bc rfl (by constructor) zN zS ?_
  exact vb (by unfold ff; rw [hw])
 have hw0 : (gx t (q.ch, q.ln)).isSome = true := by rw [hc] at hst; simpa using hst.symm
 obtain ⟨l, hw⟩ := Option.isSome_iff_exists.1 hw0
 obtain ⟨k, n, c, hkn, hk, hn⟩ := sj hw
 have hch : q.ch = ((k : Nat) : Int) := congrArg Prod.fst hkn
 have hln : q.ln = ((n : Nat) : Int) := congrArg Prod.snd hkn
 have hwl := uq ht hw
 refine av ?_
 refine K2 _ ?_
 refine yS fun _ K5 => ?_
 refine gu [(0, none), (1, none), (2, none), (3, none), (4, none), (5, none), (6, none), (7, none), (8, none), (9, none), (10, none), (11, none), (12, none), (13, none), (14, none), (15, none), (16, none), (17, none)] (fun i => [16].contains i) (fun i => [15, 16].contains i) (fun i => [0, 2, 4, 5, 7, 9, 11, 12, 13, 17].contains i) [] (by kernel_rfl) (by kernel_rfl) ?_
 refine ah rfl rfl rfl rfl (co rfl rfl rfl) ?_
 try dsimp only [St.put]
 refine ay rfl rfl rfl rfl (ca rfl rfl) ?_
 refine ah rfl rfl rfl rfl (co rfl rfl rfl) ?_
 try dsimp only [St.put]
 refine ay rfl rfl rfl rfl (ca rfl rfl) ?_
 try dsimp only [St.put]
 refine ah rfl rfl rfl rfl (bp rfl rfl rfl (by omega) (bk (by assumption)) (Enc.len _)) ?_
 refine ah rfl rfl rfl rfl (co rfl rfl rfl) ?_
 try dsimp only [St.put]
 refine ay rfl rfl rfl rfl (ca rfl rfl) ?_
 refine ah rfl rfl rfl rfl (co rfl rfl rfl) ?_
 try dsimp only [St.put]
 refine ay rfl rfl rfl rfl (ca rfl rfl) ?_
 try dsimp only [St.put]
 refine ah rfl rfl rfl rfl (bp rfl rfl rfl (by omega) (bk (by assumption)) (Enc.len _)) ?_
 try dsimp only [St.put]
 refine ay rfl rfl rfl rfl (ca rfl rfl) ?_
 refine ah rfl rfl rfl rfl (bg rfl rfl (List.length_map _)) ?_
 refine ah rfl rfl rfl rfl (f7 rfl rfl rfl (by omega)) ?_
 refine ah rfl rfl rfl rfl (co rfl rfl rfl) ?_
 try dsimp only [St.put]
 refine ay rfl rfl rfl rfl (ca rfl rfl) ?_
 refine jg ?_
 try dsimp only [St.put]
 refine jz rfl rfl rfl (dj rfl rfl rfl (by decide) (by decide) zR (by decide) ⟨zD, ?_⟩)
 try dsimp only [St.put]
 refine il rfl rfl rfl rfl (ax rfl rfl rfl (mz _ _ [_]) ?_)
 refine ef rfl rfl rfl rfl (fh rfl (by constructor)) ?_
 refine jf ?_
 dsimp only [St.put]
 refine K5 _ ?_
 refine ar ?_
 refine bc rfl (by constructor) zN zS ?_
 exact vb (by unfold ff; rw [hw, ga])
theorem ujq (t : ai) (ht : dp t = true) : Pure Tryz.prog 82 [i1 t] (.tup [lst (l4 t t.length), .v (.int .i64 (l8 t : Int))]) := by
 refine ct Tryz.func82 rfl (fun m => .tup (cc (br _ _) (cc .v da))) fun G nx => ?_
 simp only [Tryz.ntmps82, List.length_cons, List.length_nil, Nat.reduceAdd, Nat.reduceSub]
 refine bu fun hlt => ?_
 dsimp only at hlt
 obtain ⟨hl1, hl2, hl3⟩ := li ht
 refine yS fun _ K1 => ?_
 refine yR ?_
 try dsimp only [St.put]
 refine yB rfl rfl rfl ?_
 refine yA rfl rfl ?_
 refine yA rfl rfl ?_
 refine yN ?_
 dsimp only [St.put]
 refine K1 _ ?_
 refine yS fun _ K2 => ?_
 refine yR ?_
 refine yA rfl rfl ?_
 refine yN ?_
 dsimp only [St.put]
 refine K2 _ ?_
 refine oo 4 3 1 rfl (by decide) ?_
 dsimp only [List.set_cons_zero, List.set_cons_succ]
 refine yS fun _ K3 => ?_
 refine yR ?_
 refine yA rfl rfl ?_
 refine yN ?_
 dsimp only [St.put]
 refine K3 _ ?_
 refine yS fun _ K4 => ?_
 refine yS fun _ K5 => ?_
 refine yR ?_
 refine yF rfl rfl rfl rfl ?_
 refine yL rfl rfl rfl ?_
 refine aa rfl (bg rfl rfl (List.length_map _)) ?_
 refine yM rfl rfl ?_
 refine yN ?_
 dsimp only [St.put]
 refine K5 _ ?_
 refine az ?_
 refine ce 12 ?_
 refine zQ ?_
 refine cy (ak G nx (.tip 0 3 1)) zX ?_
 dsimp only
 refine cx (X := Nat) (fun k => k ≤ t.length) (fun k => t.length - k) (fun k => [(4, .list ((l4 t k).map cells) (.tip nx)), (5, .v (.int .i64 (fk t k : Int))), (7, .any), (11, .v (.int .i64 (k : Int)))]) (fun k G' => ak G nx (.tip (l4 t k).length 3 1)) 0 rfl ?_ ?_ ?_ ?_ ?_ ?_
 ·exact Nat.zero_le _
 ·exact zF
 ·exact zX
 ·rintro k hI
  exact zL
 ·rintro k hI
  exact zH
 rintro k hI
 dsimp only at hI ⊢
 refine yS fun _ K6 => ?_
 refine yR ?_
 refine aa rfl (cb rfl rfl rfl) ?_
 refine yN ?_
 dsimp only [St.put]
 refine K6 _ ?_
 refine yS fun _ K7 => ?_
 refine am rfl (fun hc => ?_) (fun hc => ?_)
 ·replace hc := of_decide_eq_true hc
  obtain ⟨c, hcx⟩ : ∃ c, t[k]? = some c := c7 (by omega)
  have hll := (hl3 c (fm hcx)).2.1
  have hsl := uw ht k (by omega)
  have hst : ((fk t (k + 1) : Nat) : Int) = (fk t k : Int) + (c.lines.length : Int) := by rw [sq hcx]; omega
  have hln := ua7 t k
  refine av ?_
  refine K7 _ ?_
  refine yS fun _ K8 => ?_
  refine az ?_
  refine yS fun _ K9 => ?_
  refine yR ?_
  refine aa rfl (bp rfl rfl rfl rfl (bk (by assumption)) (Enc.len _)) ?_
  refine yE rfl rfl rfl ?_
  try dsimp only [St.put]
  refine ae rfl (dr rfl ?_)
  try dsimp only [St.put]
  refine ae rfl (c6 rfl rfl rfl zG rfl rfl (by rfl) ?_)
  refine yN ?_
  dsimp only [St.put]
  refine K9 _ ?_
  refine gh (i := 7) rfl zG zC ?_
  dsimp only
  refine yS fun _ K10 => ?_
  refine yR ?_
  refine yM rfl rfl ?_
  refine yM rfl rfl ?_
  try dsimp only [St.put]
  refine ae rfl (dj rfl rfl rfl (by decide) (by decide) zR (by decide) ?_)
  try dsimp only [St.put]
  refine ae rfl (jc ([(fk t k : Int)]) rfl rfl zG zE rfl rfl zA ?_ zA)
  refine yA rfl rfl ?_
  refine yN ?_
  dsimp only [St.put]
  refine K10 _ ?_
  refine yR ?_
  refine yM rfl rfl ?_
  refine yF rfl rfl rfl rfl ?_
  refine yL rfl rfl rfl ?_
  refine aa rfl (bg rfl rfl (List.length_map _)) ?_
  refine aa rfl (bq rfl rfl rfl (by omega)) ?_
  refine yA rfl rfl ?_
  refine yN ?_
  dsimp only [St.put]
  refine K8 _ ?_
  refine yR ?_
  refine aa rfl (bq rfl rfl rfl (by omega)) ?_
  refine yM rfl rfl ?_
  refine yN ?_
  dsimp only [St.put]
  rw [← hst]
  simp only [← uhr]
  exact ⟨k + 1, by omega, by omega, ⟨⟨rfl, rfl⟩, zF, zB, zN, zX⟩⟩
 replace hc := of_decide_eq_false hc
 obtain rfl : k = t.length := by omega
 refine cv ?_
 refine K4 _ ?_
 refine yS fun _ K11 => ?_
 refine yR ?_
 refine yM rfl rfl ?_
 refine yM rfl rfl ?_
 refine yA rfl rfl ?_
 refine yA rfl rfl ?_
 refine yN ?_
 dsimp only [St.put]
 refine K11 _ ?_
 refine ar ?_
 refine gy rfl (dx (by constructor)) (dx (by constructor)) zN zS ?_ ?_
 ·exact zW
 exact Wk.of_eq (vi rfl)
end Go.Proofs.YtbbdginipiljdaaGreatDoor
namespace Go.AB
open Go Go.RowKit Go.ChangeShapes Go.WideShapes
open Go.AB.Enc (cells)
open Go.PB (aw ai PlaceD ba bf bd)
/-- What is read along a type is a datum. -/
class OpensE (P : Program) (t : TypeId) (α : Type) [Enc α] : Prop where
 n : P.cellsOf t = Enc.n α
 op : ∀ {H : Type} {enc : TypeId × Value → H} {w : World} {base : Nat} {spare : Nat → Bool} {held : Bool} {fuel : Nat} {cs : List Value} {x : DataW H × List MemPlace}, DataW.trod enc P w base spare held fuel t cs = some x → ∃ a : α, Rs (jp w) w (cells a) cs
def tz (P : Program) (t : TypeId) (k : IntKind) : Bool := match P.underlying t with | some (.int k') => k' == k && P.cellsOf t == 1 | _ => false
def xr (P : Program) (t : TypeId) : Bool := match P.underlying t with | some .string => P.cellsOf t == 1 | _ => false
def xy (P : Program) (t e : TypeId) : Bool := match P.underlying t with | some (.slice e') => e' == e && P.cellsOf t == 1 | _ => false
def jj (P : Program) (t : TypeId) (l : List (Nat × TypeId × Nat)) (n : Nat) : Bool := match P.underlying t with
 | some (.struct fs) => (fs.toList.map fun f => (f.offset, f.type, P.cellsOf f.type)) == l && P.cellsOf t == n
 | _ => false
theorem wfI64 {n : Int} (h : (Lit.int .i64 n).wf = true) : okV (.int .i64 n) = true := by
 simp [Lit.wf, IntKind.min, IntKind.max, IntKind.signed, IntKind.bits] at h
 exact jw ⟨by omega, by omega⟩
theorem wfU8 {n : Int} (h : (Lit.int .u8 n).wf = true) : okV (.int .u8 n) = true := by
 simp [Lit.wf, IntKind.min, IntKind.max, IntKind.signed, IntKind.bits] at h
 exact yl ⟨by omega, by omega⟩
section
variable {P : Program} {t e : TypeId}
theorem zb {k : IntKind} (h : tz P t k = true) : P.underlying t = some (.int k) ∧ P.cellsOf t = 1 := by
 unfold tz at h
 split at h
 ·rename_i k' he
  simp only [Bool.and_eq_true, beq_iff_eq] at h
  rw [he, h.1]; exact ⟨rfl, h.2⟩
 ·cases h
theorem ua5 (h : xr P t = true) : P.underlying t = some .string ∧ P.cellsOf t = 1 := by
 unfold xr at h
 split at h
 ·rename_i he; exact ⟨he, by simpa using h⟩
 ·cases h
theorem ube (h : xy P t e = true) : P.underlying t = some (.slice e) ∧ P.cellsOf t = 1 := by
 unfold xy at h
 split at h
 ·rename_i k' he
  simp only [Bool.and_eq_true, beq_iff_eq] at h
  rw [he, h.1]; exact ⟨rfl, h.2⟩
 ·cases h
theorem Rs.single {E : Env} {w : World} {c : C} {v : Value} (h : R E w c v) : Rs E w [c] [v] := Rs.cons h Rs.nil
theorem Rs.single_inv {E : Env} {w : World} {c : C} {v : Value} (h : Rs E w [c] [v]) : R E w c v := h.2 0 c v rfl rfl
theorem OpensE.int (h : tz P t .i64 = true) : OpensE P t Int where
 n := (zb h).2
 op hx := by
  obtain ⟨n, rfl, _, h2⟩ := DataW.trod_int (zb h).1 hx
  exact ⟨n, Rs.single (.v (wfI64 h2))⟩
theorem OpensE.str (h : xr P t = true) : OpensE P t ByteArray where
 n := (ua5 h).2
 op hx := by
  obtain ⟨s, rfl, _, h2⟩ := DataW.trod_string (ua5 h).1 hx
  exact ⟨s, Rs.single (.v (okV_str.2 (by simpa [maxLen] using h2)))⟩
theorem uhs {w : World} {a : Addr} {v : Value} (h : w.cell? a = some v) : a.spot = none := by
 unfold World.cell? at h
 split at h
 ·split at h
  ·cases h
  ·rename_i hs
   cases hsp : a.spot with
   | none => rfl
   | some s => simp [hsp] at hs
 ·cases h
theorem udj {α : Type} {p : Nat → α → Prop} : ∀ (n : Nat), (∀ i, i < n → ∃ x, p i x) → ∃ xs : List α, xs.length = n ∧ ∀ i x, xs[i]? = some x → p i x
 | 0, _ => ⟨[], rfl, fun i x h => by simp at h⟩
 | n + 1, h => by
  obtain ⟨xs, h1, h2⟩ := udj n fun i hi => h i (by omega)
  obtain ⟨y, hy⟩ := h n (by omega)
  refine ⟨xs ++ [y], by simp [h1], fun i x hx => ?_⟩
  by_cases hi : i < xs.length
  ·rw [List.getElem?_append_left hi] at hx; exact h2 i x hx
  ·rw [List.getElem?_append_right (by omega)] at hx
   have hz : i - xs.length = 0 := by
    have := (List.getElem?_eq_some_iff.1 hx).1
    simp at this; omega
   rw [hz] at hx
   simp at hx
   subst hx
   rw [show i = n by omega]; exact hy
theorem ubs {α : Type} [Enc α] {E : Env} {w : World} {b : Nat} : ∀ (xs : List α) (off : Nat), (∀ i x, xs[i]? = some x → ∃ es, Rs E w (cells x) es ∧ ∀ j e, es[j]? = some e → w.cell? ⟨b, off + i * Enc.n α + j, none⟩ = some e) →
  ∃ us, Rs E w (xs.map cells).flatten us ∧ ∀ j u, us[j]? = some u → w.cell? ⟨b, off + j, none⟩ = some u
 | [], off, _ => ⟨[], Rs.nil, by simp⟩
 | x :: xs, off, h => by
  obtain ⟨es, h1, h2⟩ := h 0 x rfl
  obtain ⟨us, h3, h4⟩ := ubs xs (off + Enc.n α) fun i y hy => by
   obtain ⟨fs, k1, k2⟩ := h (i + 1) y (by simpa using hy)
   exact ⟨fs, k1, fun j e he => by rw [← k2 j e he]; congr 2; rw [Nat.add_mul]; omega⟩
  have hl : es.length = Enc.n α := by rw [h1.1]; exact Enc.len x
  refine ⟨es ++ us, by rw [List.map_cons, List.flatten_cons]; exact h1.append h3, fun j u hu => ?_⟩
  by_cases hj : j < es.length
  ·rw [List.getElem?_append_left hj] at hu
   rw [← h2 j u hu]; congr 2; omega
  ·rw [List.getElem?_append_right (by omega)] at hu
   rw [← h4 _ u hu]; congr 2; omega
theorem OpensE.slice {α : Type} [Enc α] [o : OpensE P e α] (h : xy P t e = true) (hpos : 1 ≤ Enc.n α) : OpensE P t (List α) where
 n := (ube h).2
 op {H enc w base spare held fuel cs x} hx := by
  rcases Deep.open_slice (ube h).1 hx with ⟨rfl, _⟩ | ⟨a, len, cap, m, n, D, Pl, rfl, hb, hl, hm, hmm, _, hel⟩
  ·refine ⟨[], Rs.single ?_⟩
   exact R.mk_list (rows := []) (sz := 1) (us := []) (Nat.le_refl _) (Nat.zero_le _) (Nat.le_refl _) (by simp) (by simp) Rs.nil (.inl rfl) (by simp) (by simp) (by simp)
  ·have hlm : len ≤ m := by rw [hmm]; split <;> omega
   have hs : 0 < len → a.spot = none := fun h0 => by
    obtain ⟨cs', hc, ht⟩ := hel 0 (by omega)
    obtain ⟨_, hlen, hcell⟩ := World.cells?_some hc
    rw [o.n] at hlen hcell
    have := hcell 0 (by omega)
    rw [List.getElem?_eq_getElem (by omega)] at this
    have := uhs this
    simpa [Addr.add] using this
   obtain ⟨xs, h1, h2⟩ := udj (p := fun i (y : α) => ∃ es, Rs (jp w) w (cells y) es ∧ ∀ j e, es[j]? = some e → w.cell? ⟨a.block, a.off + i * Enc.n α + j, none⟩ = some e) len fun i hi => by
    obtain ⟨cs', hc, ht⟩ := hel i (by omega)
    obtain ⟨y, hy⟩ := o.op ht
    obtain ⟨_, hlen, hcell⟩ := World.cells?_some hc
    rw [o.n] at hlen hcell hc
    have hs' := hs (by omega)
    refine ⟨y, cs', hy, fun j u hj => ?_⟩
    have hj' : j < Enc.n α := by rw [← hlen]; exact (List.getElem?_eq_some_iff.1 hj).1
    have := hcell j hj'
    rw [hj] at this
    rw [← this]
    obtain ⟨ab, ao, asp⟩ := a
    dsimp only at hs'
    subst hs'
    rw [qp, qp]
   subst h1
   refine ⟨xs, Rs.single ?_⟩
   obtain ⟨us, k1, k2⟩ := ubs (E := jp w) (w := w) (b := a.block) xs a.off h2
   have := R.mk_list (E := jp w) (w := w) (rows := xs.map cells) (a := some a) (cap := cap) (sz := Enc.n α) (us := us) (tok := .none) (by simpa using hl) hm hpos (l7 xs) (fun r hr c hc => by
    obtain ⟨x, _, rfl⟩ := List.mem_map.1 hr
    exact Enc.one x c hc) k1 (by
    by_cases hxs : xs = []
    ·subst hxs; exact .inl rfl
    ·right
     have hs' := hs (List.length_pos_iff.2 hxs)
     obtain ⟨ab, ao, asp⟩ := a
     dsimp only at hs'
     subst hs'
     refine ⟨ab, ao, rfl, ?_, k2⟩
     have h0 : 0 < us.length := by
      rw [k1.1, ne (l7 xs), List.length_map]
      exact Nat.mul_pos (List.length_pos_iff.2 hxs) hpos
     have := ufc (k2 (us.length - 1) _ (List.getElem?_eq_getElem (by omega)))
     dsimp only at this
     show ao + us.length ≤ qj w ab
     omega) (by simp) (by simp) (by simp)
   rw [List.length_map] at this
   exact this
theorem ua6 {l : List (Nat × TypeId × Nat)} {n : Nat} (h : jj P t l n = true) {H : Type} {enc : TypeId × Value → H} {w : World} {base : Nat} {spare : Nat → Bool} {held : Bool} {fuel : Nat} {cs : List Value} {x : DataW H × List MemPlace}
  (hx : DataW.trod enc P w base spare held fuel t cs = some x) : cs.length = n ∧ ∀ p ∈ l, ∃ m y, DataW.trod enc P w base spare held m p.2.1 ((cs.drop p.1).take p.2.2) = some y := by
 unfold jj at h
 split at h
 ·rename_i fs he
  simp only [Bool.and_eq_true, beq_iff_eq] at h
  obtain ⟨xs, m, _, _, hl, hlen, hf⟩ := DataW.trod_struct he hx
  refine ⟨by rw [hl, h.2], fun p hp => ?_⟩
  rw [← h.1] at hp
  obtain ⟨f, hfm, rfl⟩ := List.mem_map.1 hp
  obtain ⟨i, hi⟩ := List.getElem?_of_mem hfm
  have hi' : fs[i]? = some f := by simpa using hi
  have hlt : i < xs.length := by rw [hlen]; exact (Array.getElem?_eq_some_iff.1 hi').1
  exact ⟨m, xs[i], by rw [← List.getElem?_eq_getElem hlt]; exact hf i f hi'⟩
 ·cases h
theorem uv {l : List (Nat × TypeId × Nat)} {n : Nat} (h : jj P t l n = true) : P.cellsOf t = n ∧ ∃ fs, P.underlying t = some (.struct fs) := by
 unfold jj at h
 split at h
 ·rename_i fs he
  simp only [Bool.and_eq_true, beq_iff_eq] at h
  exact ⟨h.2, fs, he⟩
 ·cases h
/-- A struct of one field. -/
theorem OpensE.one {α : Type} [Enc α] [o : OpensE P e α] (h : jj P t [(0, e, Enc.n α)] (Enc.n α) = true) : OpensE P t α where
 n := (uv h).1
 op {H enc w base spare held fuel cs x} hx := by
  obtain ⟨hl, hp⟩ := ua6 h hx
  obtain ⟨m, y, hy⟩ := hp _ (List.mem_cons_self ..)
  obtain ⟨a, ha⟩ := o.op hy
  dsimp only at ha
  rw [List.drop_zero, List.take_of_length_le (by omega)] at ha
  exact ⟨a, ha⟩
/-- A struct, field by field. -/
theorem OpensE.struct {α : Type} [Enc α] {l : List (Nat × TypeId × Nat)} (h : jj P t l (Enc.n α) = true)
  (b : ∀ (w : World) (cs : List Value), cs.length = Enc.n α → (∀ p ∈ l, ∀ (β : Type) (_ : Enc β), OpensE P p.2.1 β → ∃ a : β, Rs (jp w) w (cells a) ((cs.drop p.1).take p.2.2)) → ∃ a : α, Rs (jp w) w (cells a) cs) : OpensE P t α where
 n := (uv h).1
 op {H enc w base spare held fuel cs x} hx := by
  obtain ⟨hl, hp⟩ := ua6 h hx
  exact b w cs hl fun p hpl β _ o => let ⟨_, _, hy⟩ := hp p hpl; o.op hy
theorem OpensE.chap {tI tL : TypeId} [oI : OpensE P tI Int] [oL : OpensE P tL (List (List ByteArray))] (h : jj P t [(0, tI, 1), (1, tL, 1)] 2 = true) : OpensE P t aw :=
 .struct (α := aw) h fun w cs hl hp => by
  obtain ⟨a, ha⟩ := hp (0, tI, 1) (by simp) Int inferInstance oI
  obtain ⟨b, hb⟩ := hp (1, tL, 1) (by simp) (List (List ByteArray)) inferInstance oL
  match cs, hl with
  | [u, v], _ => exact ⟨⟨a, b⟩, Rs.cons (Rs.single_inv ha) hb⟩
theorem OpensE.place {tI : TypeId} [oI : OpensE P tI Int] (h : jj P t [(0, tI, 1), (1, tI, 1), (2, tI, 1)] 3 = true) : OpensE P t PlaceD :=
 .struct (α := PlaceD) h fun w cs hl hp => by
  obtain ⟨a, ha⟩ := hp (0, tI, 1) (by simp) Int inferInstance oI
  obtain ⟨b, hb⟩ := hp (1, tI, 1) (by simp) Int inferInstance oI
  obtain ⟨c, hc⟩ := hp (2, tI, 1) (by simp) Int inferInstance oI
  match cs, hl with
  | [u, v, x], _ => exact ⟨⟨a, b, c⟩, Rs.cons (Rs.single_inv ha) (Rs.cons (Rs.single_inv hb) hc)⟩
/-- An argument that is a struct; a number. -/
theorem OpensE.arg {α : Type} [Enc α] [o : OpensE P t α] {l : List (Nat × TypeId × Nat)} {n : Nat} (h : jj P t l n = true) {H : Type} {enc : TypeId × Value → H} {w : World} {base : Nat} {spare : Nat → Bool} {held : Bool} {r : Reach} {b0 : Nat} {v : Value} {d : DataW H} {ps : List MemPlace}
  (hv : Value.okWide P w r b0 t v) (hd : DataW.Trod enc P w base spare held t v d ps) : ∃ a : α, R (jp w) w (.agg (cells a)) v := by
 obtain ⟨fs, hs⟩ := (uv h).2
 obtain ⟨cs, rfl, _⟩ := okWide_struct hs hv
 obtain ⟨fuel, hf⟩ := hd
 obtain ⟨a, ha⟩ := o.op hf
 exact ⟨a, by simpa [Value.cells] using Rs.agg ha (Enc.one a)⟩
end
theorem uln {P : Program} {f : FuncId} {cs : List C} {v fv : Value} {fc : C} (hp : PureF (.fact fv fc) P f cs (.v v)) {w : World} {args : List Value} (hF : R (jp w) w fc fv) (hr : Rs (jp w) w cs args) :
  Calls P f args.toArray w fun e w' => e = .returned v ∧ Below w.heap.size w w' := by
 obtain ⟨E1, v1, g1⟩ := uei (uoj w) hF
 refine (hp _ _ (nt _ _ _) E1 w args (hr.ev v1) g1).mono ?_
 rintro e w' ⟨r, x, E', G', nx', rfl, hev, hx, _, rfl, _⟩
 exact ⟨by rw [hx.v_inv], by have := hev.below; rw [v1.B] at this; exact this⟩
end Go.AB
namespace Go.AB
open Go Go.RowKit Go.ChangeShapes Go.WideShapes
open Go.AB.Enc (cells)
variable {P : Program} {o : Oper} {st : St}
theorem n_rem {xt yt : TypeId} {x y : Operand} {m n : Int} (ho : o.op = .binOp .rem xt x y yt) (hx : evC st x = .v (.int .i64 m)) (hy : evC st y = .v (.int .i64 n)) (hm : 0 ≤ m ∧ m ≤ 9223372036854775807) (hn : 0 < n) : NStep P o st (.v (.int .i64 (m % n))) :=
 ka ho hx hy (jw (by have h1 := Int.emod_nonneg m (b := n) (by omega); have h2 := Int.mul_ediv_add_emod m n; have h3 := Int.mul_nonneg (Int.le_of_lt hn) (Int.ediv_nonneg hm.1 (Int.le_of_lt hn)); omega)) fun w => by
  have h1 : ¬ n = 0 := by omega
  have h2 : m.tmod n = m % n := Int.tmod_eq_emod_of_nonneg hm.1
  simp [eqGuard, binOp, Op.intDiv, h1, h2]
theorem uc5 {s d : TypeId} {x : Operand} {k : IntKind} {n : Int} (ho : o.op = .convert s d x) (hx : evC st x = .v (.int k n)) (hs : (P.underlying s).isSome = true) (hd : P.underlying d = some (.int .i64)) (hn : -9223372036854775808 ≤ n ∧ n ≤ 9223372036854775807) : NStep P o st (.v (.int .i64 n)) := fun E w a h => by
 have e1 := (hx ▸ h.ev x).v_inv
 refine ⟨_, .v (jw hn), fun w' => ?_⟩
 have hk : P.intKind d = .i64 := by simp [Program.intKind, hd]
 have hw : IntKind.i64.wrap n = n := by rw [IntKind.wrap_i64]; omega
 have := run_convert_int (P := P) w' s d k n hs (by rw [hk]; exact hd)
 rw [hk, hw] at this
 simp [execOp, ho, e1, this]
theorem OpensE.argU8 {t : TypeId} (h : tz P t .u8 = true) {H : Type} {enc : TypeId × Value → H} {w : World} {base : Nat} {spare : Nat → Bool} {held : Bool} {r : Reach} {b0 : Nat} {v : Value} {d : DataW H} {ps : List MemPlace}
  (hv : Value.okWide P w r b0 t v) (hd : DataW.Trod enc P w base spare held t v d ps) : ∃ a : Int, R (jp w) w (.v (.int .u8 a)) v := by
 obtain ⟨i, rfl, _, _, wi⟩ := open_int (zb h).1 hv hd
 exact ⟨i, .v (wfU8 wi)⟩
theorem uau {n : Int} (h : (C.v (.int .u8 n)).fit) : 0 ≤ n ∧ n ≤ 255 := (okV_int.1 (fit_v.1 h) : _)
end Go.AB
namespace Go.AB
open Go Go.RowKit
open Go.AB.Enc (cells)
variable {P : Program} {o : Oper} {st : St}
theorem yu {xt yt : TypeId} {x y : Operand} {m n : Int} (ho : o.op = .binOp .mul xt x y yt) (hx : evC st x = .v (.int .i64 m)) (hy : evC st y = .v (.int .i64 n)) (hb : -9223372036854775808 ≤ m * n ∧ m * n ≤ 9223372036854775807) : NStep P o st (.v (.int .i64 (m * n))) :=
 ka ho hx hy (jw hb) fun w => by
  have : IntKind.i64.wrap (m * n) = m * n := by rw [IntKind.wrap_i64]; omega
  simp [eqGuard, binOp, Op.intArith, this]
theorem yr {xt yt : TypeId} {x y : Operand} {m n : Int} (ho : o.op = .binOp .quo xt x y yt) (hx : evC st x = .v (.int .i64 m)) (hy : evC st y = .v (.int .i64 n)) (hm : 0 ≤ m ∧ m ≤ 9223372036854775807) (hn : 0 < n) : NStep P o st (.v (.int .i64 (m / n))) := by
 have h3 : 0 ≤ m / n := Int.ediv_nonneg hm.1 (by omega)
 have h4 : m / n ≤ m := Int.ediv_le_self _ hm.1
 exact ka ho hx hy (jw (by omega)) fun w => by
  have h1 : ¬ n = 0 := by omega
  have h2 : m.tdiv n = m / n := Int.tdiv_eq_ediv_of_nonneg hm.1
  have h5 : IntKind.i64.wrap (m / n) = m / n := by rw [IntKind.wrap_i64]; omega
  simp [eqGuard, binOp, Op.intDiv, h1, h2, h5]
theorem ug5 {n : Nat} (h : n ≤ 62) : (2 : Int) ^ n ≤ 4611686018427387904 := by
 have : 2 ^ n ≤ 2 ^ 62 := Nat.pow_le_pow_right (by omega) h
 have h2 : ((2 ^ n : Nat) : Int) = (2 : Int) ^ n := by norm_cast
 rw [← h2]
 have h3 : (2 : Nat) ^ 62 = 4611686018427387904 := by decide
 omega
/-- one, shifted -/
theorem vt {xt yt : TypeId} {x y : Operand} {n : Nat} (ho : o.op = .binOp .shl xt x y yt) (hx : evC st x = .v (.int .i64 1)) (hy : evC st y = .v (.int .i64 (n : Int))) (hn : n ≤ 62) : NStep P o st (.v (.int .i64 ((2 ^ n : Nat) : Int))) := by
 have h0 := ug5 hn
 have h2 : ((2 ^ n : Nat) : Int) = (2 : Int) ^ n := by norm_cast
 have h1 : 0 ≤ ((2 ^ n : Nat) : Int) := Int.natCast_nonneg _
 exact ka ho hx hy (jw (by omega)) fun w => by
  have e1 : ¬ ((n : Int) < 0) := by omega
  have e2 : min (n : Int).toNat IntKind.i64.bits = n := by rw [Int.toNat_natCast]; show min n 64 = n; omega
  have e3 : IntKind.i64.wrap (1 * 2 ^ n) = ((2 ^ n : Nat) : Int) := by rw [Int.one_mul, ← h2, IntKind.wrap_i64]; omega
  simp only [eqGuard, binOp, Op.shift, e1, if_false, e2, e3]
  rfl
/-- a number that is not below 0, shifted back -/
theorem vr {xt yt : TypeId} {x y : Operand} {k : IntKind} {m n : Nat} (ho : o.op = .binOp .shr xt x y yt) (hx : evC st x = .v (.int k (m : Int))) (hy : evC st y = .v (.int .i64 (n : Int))) (hn : n ≤ k.bits) (hm : (m : Int) ≤ hiK k) (hk : loK k ≤ 0) : NStep P o st (.v (.int k ((m / 2 ^ n : Nat) : Int))) := by
 have h4 : m / 2 ^ n ≤ m := Nat.div_le_self _ _
 exact n_int' ho hx hy (okV_int.2 (by obtain ⟨q, hq⟩ : ∃ q, m / 2 ^ n = q := ⟨_, rfl⟩; rw [hq] at h4 ⊢; omega)) fun w => by
  have e1 : ¬ ((n : Int) < 0) := by omega
  have e2 : min (n : Int).toNat k.bits = n := by rw [Int.toNat_natCast]; omega
  have e3 : (m : Int).fdiv (2 ^ n) = ((m / 2 ^ n : Nat) : Int) := by
   have h2 : ((2 ^ n : Nat) : Int) = (2 : Int) ^ n := by norm_cast
   rw [← h2, Int.fdiv_eq_ediv_of_nonneg _ (Int.natCast_nonneg _)]
   norm_cast
  simp only [eqGuard, binOp, Op.shift, e1, if_false, e2, e3]
  rfl
where
 n_int' {op : BinOp} {xt yt : TypeId} {x y : Operand} {k k' : IntKind} {m n : Int} {r : Value} (ho : o.op = .binOp op xt x y yt) (hx : evC st x = .v (.int k m)) (hy : evC st y = .v (.int k' n))
  (h1 : okV r = true) (h : ∀ w, (do eqGuard op xt x y (.int k m) (.int k' n); binOp op xt (.int k m) (.int k' n)).run P w = .ok r w) : NStep P o st (.v r) := fun E w a hs => by
  have e1 := (hx ▸ hs.ev x).v_inv
  have e2 := (hy ▸ hs.ev y).v_inv
  refine ⟨r, .v h1, fun w' => ?_⟩
  have := h w'
  simp only [execOp, ho, e1, e2, Sem.run_bind] at this ⊢
  rw [this]
  rfl
/-- the last bit -/
theorem vw {xt yt : TypeId} {x y : Operand} {k : IntKind} {m : Nat} (ho : o.op = .binOp .and xt x y yt) (hx : evC st x = .v (.int k (m : Int))) (hy : evC st y = .v (.int k 1)) (hm : m < 2 ^ k.bits) (hb : 2 ≤ k.bits) : NStep P o st (.v (.int k ((m % 2 : Nat) : Int))) := by
 have h2 : m % 2 < 2 := Nat.mod_lt _ (by omega)
 exact ka ho hx hy (okV_int.2 (by cases k <;> simp only [loK, hiK] <;> omega)) fun w => by
  have e1 : (BitVec.ofInt k.bits (m : Int) &&& BitVec.ofInt k.bits 1).toNat = m % 2 := by
   have q1 : (BitVec.ofInt k.bits (m : Int)).toNat = m := by
    rw [show BitVec.ofInt k.bits (m : Int) = BitVec.ofNat k.bits m from BitVec.ofInt_natCast .., BitVec.toNat_ofNat, Nat.mod_eq_of_lt hm]
   have q2 : (BitVec.ofInt k.bits 1).toNat = 1 := by
    rw [show BitVec.ofInt k.bits 1 = BitVec.ofNat k.bits 1 from BitVec.ofInt_natCast k.bits 1, BitVec.toNat_ofNat, Nat.mod_eq_of_lt]
    exact Nat.one_lt_two_pow (by omega)
   rw [BitVec.toNat_and, q1, q2, Nat.and_one_is_mod]
  have e2 : k.wrap ((m % 2 : Nat) : Int) = ((m % 2 : Nat) : Int) := by
   have : m % 2 = 0 ∨ m % 2 = 1 := by omega
   rcases this with h | h <;> rw [h] <;> cases k <;> decide
  simp only [eqGuard, binOp, Op.intBits, e1, e2]
  simp
end Go.AB
namespace Go.AB
open Go Go.RowKit
open Go.AB.Enc (cells)
open Go.PB (aw ai PlaceD ba bf bd bn aq af cj bj cz c5)
theorem uba {t : ai} (ht : dp t = true) (k : Nat) : fk t k ≤ 60 := by
 obtain ⟨_, h2, h3⟩ := li ht
 have key : ∀ j, j ≤ t.length → fk t j ≤ j * 10 := by
  intro j
  induction j with
  | zero => intro _; rw [ua9]; exact Nat.zero_le _
  | succ j ih =>
   intro hj
   have hc : t[j]? = some t[j] := List.getElem?_eq_getElem (by omega)
   rw [sq hc]
   have := (h3 _ (List.mem_of_getElem? hc)).2.1
   have := ih (by omega)
   omega
 by_cases q : k ≤ t.length
 ·have := key k q; omega
 have h1 := key t.length (Nat.le_refl _)
 have e : fk t k = fk t t.length := by
  unfold fk
  rw [List.take_of_length_le (show t.length ≤ k by omega), List.take_of_length_le (Nat.le_refl _)]
 omega
instance decLtW : ∀ a b : List Int, Decidable (ltW a b)
 | [], _ => isFalse (by simp [ltW])
 | _ :: _, [] => isFalse (by simp [ltW])
 | x :: a, y :: b => by
  have := decLtW a b
  unfold ltW
  exact inferInstance
theorem un3 {a b : List Int} (h : a.length = b.length) : gt a b = decide (ltW a b) := by
 rw [Bool.eq_iff_iff, uaa, decide_eq_true_eq]
 exact ⟨fun k => k.elim (fun k => by omega) (fun k => k.2), fun k => .inr ⟨h, k⟩⟩
/-- lists that are the same so far, and then not -/
theorem ude : ∀ {a b : List Int} {k : Nat} {x y : Int}, a.take k = b.take k → a[k]? = some x → b[k]? = some y → x ≠ y → (ltW a b ↔ x < y)
 | [], _, _, _, _, _, h, _, _ => by simp at h
 | _ :: _, [], _, _, _, _, _, h, _ => by simp at h
 | u :: a, v :: b, 0, x, y, _, h1, h2, hn => by
  simp only [List.getElem?_cons_zero, Option.some.injEq] at h1 h2
  subst h1; subst h2
  simp only [ltW]
  exact ⟨fun h => h.elim id (fun h => absurd h.1 hn), .inl⟩
 | u :: a, v :: b, k + 1, x, y, he, h1, h2, hn => by
  simp only [List.take_succ_cons, List.cons.injEq] at he
  obtain ⟨e1, e2⟩ := he
  subst e1
  have := ude e2 (by simpa using h1) (by simpa using h2) hn
  show (u < u ∨ u = u ∧ ltW a b) ↔ x < y
  rw [this]
  exact ⟨fun h => h.elim (fun h => absurd h (Int.lt_irrefl _)) (fun h => h.2), fun h => .inr ⟨rfl, h⟩⟩
end Go.AB
namespace Go.Proofs.YtbbdginipiljdaaGreatDoor
set_option maxRecDepth 10000
open Go.RowKit Go.AB
open Go.AB.Enc (cells)
open Go.PB (aw ai PlaceD ba bf bd bn aq af cj bj cz c5)
theorem qz (n lo hi : Int) : Pure Tryz.prog 71 [.v (.int .i64 n), .v (.int .i64 lo), .v (.int .i64 hi)] (.v (.bool (inB n lo hi))) := by
 refine ct Tryz.func71 rfl (fun m => .v) fun G nx => ?_
 simp only [Tryz.ntmps71, List.length_cons, List.length_nil, Nat.reduceAdd, Nat.reduceSub]
 refine bu fun hlt => ?_
 dsimp only at hlt
 refine yS fun _ K1 => ?_
 refine yR ?_
 refine yA rfl rfl ?_
 refine yN ?_
 dsimp only [St.put]
 refine K1 _ ?_
 refine yS fun _ K2 => ?_
 refine yR ?_
 refine yM rfl rfl ?_
 refine yM rfl rfl ?_
 refine aa rfl (kz rfl rfl rfl) ?_
 refine em (fun hs => ?_) (fun hs => ?_)
 ·try replace hs := of_decide_eq_true hs
  refine yM rfl rfl ?_
  refine yM rfl rfl ?_
  refine yM rfl rfl ?_
  refine aa rfl (o8 rfl rfl rfl) ?_
  refine aa rfl (bw rfl rfl (by constructor)) ?_
  refine yA rfl rfl ?_
  refine yN ?_
  dsimp only [St.put]
  refine K2 _ ?_
  refine ar ?_
  refine bc rfl (by constructor) zN zS ?_
  exact vb (by simp [inB, hs]; try omega)
 try replace hs := of_decide_eq_false hs
 refine yM rfl rfl ?_
 refine yK rfl ?_
 refine yK rfl ?_
 refine yK rfl ?_
 refine aa rfl (cm rfl rfl (by constructor)) ?_
 refine yA rfl rfl ?_
 refine yN ?_
 dsimp only [St.put]
 refine K2 _ ?_
 refine ar ?_
 refine bc rfl (by constructor) zN zS ?_
 exact vb (by simp [inB, hs]; try omega)
theorem ui5 (t : ai) (ht : dp t = true) : Pure Tryz.prog 107 [i1 t] (.v (.int .i64 (l8 t : Int))) := by
 refine ct Tryz.func107 rfl (fun m => .v) fun G nx => ?_
 simp only [Tryz.ntmps107, List.length_cons, List.length_nil, Nat.reduceAdd, Nat.reduceSub]
 refine bu fun hlt => ?_
 dsimp only at hlt
 obtain ⟨hl1, hl2, hl3⟩ := li ht
 refine yS fun _ K1 => ?_
 refine yR ?_
 try dsimp only [St.put]
 refine yB rfl rfl rfl ?_
 refine yA rfl rfl ?_
 refine yN ?_
 dsimp only [St.put]
 refine K1 _ ?_
 refine yS fun _ K2 => ?_
 refine yR ?_
 refine yA rfl rfl ?_
 refine yN ?_
 dsimp only [St.put]
 refine K2 _ ?_
 refine yS fun _ K3 => ?_
 refine yS fun _ K4 => ?_
 refine yR ?_
 refine yA rfl rfl ?_
 refine yN ?_
 dsimp only [St.put]
 refine K4 _ ?_
 refine az ?_
 refine ce 5 ?_
 refine zQ ?_
 refine cy (G) zX ?_
 dsimp only
 refine cx (X := Nat) (fun k => k ≤ t.length) (fun k => t.length - k) (fun k => [(3, .v (.int .i64 ((fk t k : Nat) : Int))), (4, .v (.int .i64 (k : Int)))]) (fun k G' => G') 0 rfl ?_ ?_ (fun _ _ h => h) ?_ ?_ ?_
 ·exact Nat.zero_le _
 ·exact zF
 ·rintro k hI
  exact zL
 ·exact fun _ _ _ _ h => .inl h
 rintro k hI
 dsimp only at hI ⊢
 refine yS fun _ K5 => ?_
 refine yS fun _ K6 => ?_
 refine yR ?_
 refine yM rfl rfl ?_
 refine yF rfl rfl rfl rfl ?_
 refine yL rfl rfl rfl ?_
 refine aa rfl (bg rfl rfl (List.length_map _)) ?_
 refine aa rfl (cb rfl rfl rfl) ?_
 refine yN ?_
 dsimp only [St.put]
 refine K6 _ ?_
 refine am rfl (fun hc => ?_) (fun hc => ?_)
 ·replace hc := of_decide_eq_true hc
  obtain ⟨c, hk⟩ : ∃ x, t[k]? = some x := c7 (by omega)
  have hcl := hl3 c (fm hk)
  have hst := uba ht k
  refine av ?_
  refine K5 _ ?_
  refine yS fun _ K7 => ?_
  refine az ?_
  refine yR ?_
  refine yM rfl rfl ?_
  refine yF rfl rfl rfl rfl ?_
  refine yL rfl rfl rfl ?_
  refine yM rfl rfl ?_
  refine aa rfl (bp rfl rfl rfl rfl (bk (by assumption)) (Enc.len _)) ?_
  refine yF rfl rfl rfl rfl ?_
  refine yL rfl rfl rfl ?_
  refine aa rfl (bg rfl rfl (List.length_map _)) ?_
  refine aa rfl (bq rfl rfl rfl (by omega)) ?_
  refine yA rfl rfl ?_
  refine yN ?_
  dsimp only [St.put]
  refine K7 _ ?_
  refine yR ?_
  refine yM rfl rfl ?_
  refine aa rfl (bq rfl rfl rfl (by omega)) ?_
  refine yA rfl rfl ?_
  refine yN ?_
  dsimp only [St.put]
  have e := sq hk
  rw [show ((fk t k : Nat) : Int) + (c.lines.length : Int) = ((fk t (k + 1) : Nat) : Int) by rw [e]; rfl]
  exact ⟨k + 1, by omega, by omega, ⟨⟨rfl, rfl⟩, zF, zB, zN, zX⟩⟩
 replace hc := of_decide_eq_false hc
 obtain rfl : k = t.length := by omega
 refine cv ?_
 refine K3 _ ?_
 refine yS fun _ K8 => ?_
 refine yR ?_
 refine yM rfl rfl ?_
 refine yA rfl rfl ?_
 refine yN ?_
 dsimp only [St.put]
 refine K8 _ ?_
 refine ar ?_
 refine bc rfl (by constructor) zN zS ?_
 rfl
theorem ub2 (t : ai) (q : PlaceD) (ht : dp t = true) (hq : ff t q = true) : Pure Tryz.prog 25 [i1 t, val q] (.v (.int .i64 (qb t q))) := by
 refine ct Tryz.func25 rfl (fun m => .v) fun G nx => ?_
 simp only [Tryz.ntmps25, List.length_cons, List.length_nil, Nat.reduceAdd, Nat.reduceSub]
 refine bu fun hlt => ?_
 dsimp only at hlt
 obtain ⟨hl1, hl2, hl3⟩ := li ht
 obtain ⟨kc, kn, kw, c0, l0, hqe, hkc, hkn, _⟩ := ub8 hq
 have hkcl := (List.getElem?_eq_some_iff.1 hkc).1
 have hknl := (List.getElem?_eq_some_iff.1 hkn).1
 have hc0 := (hl3 c0 (fm hkc)).2.1
 subst hqe
 refine yS fun _ K1 => ?_
 refine yR ?_
 try dsimp only [St.put]
 refine yB rfl rfl rfl ?_
 try dsimp only [St.put]
 refine yB rfl rfl rfl ?_
 refine yA rfl rfl ?_
 refine yN ?_
 dsimp only [St.put]
 refine K1 _ ?_
 refine yS fun _ K2 => ?_
 refine yR ?_
 refine yF rfl rfl rfl rfl ?_
 refine yL rfl rfl rfl ?_
 refine yA rfl rfl ?_
 refine yN ?_
 dsimp only [St.put]
 refine K2 _ ?_
 refine yS fun _ K3 => ?_
 refine yS fun _ K4 => ?_
 refine yR ?_
 refine yA rfl rfl ?_
 refine yN ?_
 dsimp only [St.put]
 refine K4 _ ?_
 refine az ?_
 refine ce 7 ?_
 refine zQ ?_
 refine cy (G) zX ?_
 dsimp only
 refine cx (X := Nat) (fun k => k ≤ kc) (fun k => kc - k) (fun k => [(5, .v (.int .i64 ((kn : Int) + ((fk t k : Nat) : Int)))), (6, .v (.int .i64 (k : Int)))]) (fun k G' => G') 0 rfl ?_ ?_ (fun _ _ h => h) ?_ ?_ ?_
 ·exact Nat.zero_le _
 ·exact zF
 ·rintro k hI
  exact zL
 ·exact fun _ _ _ _ h => .inl h
 rintro k hI
 dsimp only at hI ⊢
 refine yS fun _ K5 => ?_
 refine yS fun _ K6 => ?_
 refine yR ?_
 refine yM rfl rfl ?_
 refine yF rfl rfl rfl rfl ?_
 refine yL rfl rfl rfl ?_
 refine aa rfl (cb rfl rfl rfl) ?_
 refine yN ?_
 dsimp only [St.put]
 refine K6 _ ?_
 refine am rfl (fun hc => ?_) (fun hc => ?_)
 ·replace hc := of_decide_eq_true hc
  obtain ⟨c, hk⟩ : ∃ x, t[k]? = some x := c7 (by omega)
  have hcl := hl3 c (fm hk)
  have hst := uba ht k
  refine av ?_
  refine K5 _ ?_
  refine yS fun _ K7 => ?_
  refine az ?_
  refine yR ?_
  refine yM rfl rfl ?_
  refine yF rfl rfl rfl rfl ?_
  refine yL rfl rfl rfl ?_
  refine yM rfl rfl ?_
  refine aa rfl (bp rfl rfl rfl rfl (bk (by assumption)) (Enc.len _)) ?_
  refine yF rfl rfl rfl rfl ?_
  refine yL rfl rfl rfl ?_
  refine aa rfl (bg rfl rfl (List.length_map _)) ?_
  refine aa rfl (bq rfl rfl rfl (by omega)) ?_
  refine yA rfl rfl ?_
  refine yN ?_
  dsimp only [St.put]
  refine K7 _ ?_
  refine yR ?_
  refine yM rfl rfl ?_
  refine aa rfl (bq rfl rfl rfl (by omega)) ?_
  refine yA rfl rfl ?_
  refine yN ?_
  dsimp only [St.put]
  have e := sq hk
  rw [show (kn : Int) + ((fk t k : Nat) : Int) + (c.lines.length : Int) = (kn : Int) + ((fk t (k + 1) : Nat) : Int) by rw [e, Int.natCast_add]; omega]
  exact ⟨k + 1, by omega, by omega, ⟨⟨rfl, rfl⟩, zF, zB, zN, zX⟩⟩
 replace hc := of_decide_eq_false hc
 obtain rfl : k = kc := by omega
 refine cv ?_
 refine K3 _ ?_
 refine yS fun _ K8 => ?_
 refine yR ?_
 refine yM rfl rfl ?_
 refine yA rfl rfl ?_
 refine yN ?_
 dsimp only [St.put]
 refine K8 _ ?_
 refine ar ?_
 refine bc rfl (by constructor) zN zS ?_
 exact vi (by unfold qb; rw [Int.toNat_natCast])
theorem ub1 (a b : List Int) (ha : a.length ≤ 1000) : Pure Tryz.prog 19 [lst a, lst b] (.v (.bool (decide (a = b)))) := by
 refine ct Tryz.func19 rfl (fun m => .v) fun G nx => ?_
 simp only [Tryz.ntmps19, List.length_cons, List.length_nil, Nat.reduceAdd, Nat.reduceSub]
 refine bu fun hlt => ?_
 dsimp only at hlt
 refine ki 1 (fun hfb => ?_)
 have hb := (fit_lst.1 hfb).1
 refine yS fun _ K1 => ?_
 refine yR ?_
 refine yA rfl rfl ?_
 refine yN ?_
 dsimp only [St.put]
 refine K1 _ ?_
 refine yS fun _ K2 => ?_
 refine yS fun _ K3 => ?_
 refine yR ?_
 refine yM rfl rfl ?_
 refine aa rfl (bg rfl rfl (List.length_map _)) ?_
 refine yM rfl rfl ?_
 refine aa rfl (bg rfl rfl (List.length_map _)) ?_
 refine aa rfl (et rfl rfl rfl) ?_
 refine yN ?_
 dsimp only [St.put]
 refine K3 _ ?_
 refine am rfl (fun hc => ?_) (fun hc => ?_)
 ·try replace hc := of_decide_eq_true hc
  refine yS fun _ K4 => ?_
  refine yR ?_
  refine yA rfl rfl ?_
  refine yN ?_
  dsimp only [St.put]
  refine K4 _ ?_
  refine ar ?_
  refine bc rfl (by constructor) zN zS ?_
  exact vb (by
   have : a ≠ b := fun e => by subst e; simp at hc
   simp [this])
 have hl : a.length = b.length := by
  have := g3 hc
  omega
 refine av ?_
 refine K2 _ ?_
 refine yS fun _ K5 => ?_
 refine yS fun _ K6 => ?_
 refine yR ?_
 refine yA rfl rfl ?_
 refine yN ?_
 dsimp only [St.put]
 refine K6 _ ?_
 refine az ?_
 refine ce 6 ?_
 refine zQ ?_
 refine cy (G) zX ?_
 dsimp only
 refine cx (X := Nat) (fun k => k ≤ a.length ∧ a.take k = b.take k) (fun k => a.length - k) (fun k => [(5, .v (.int .i64 (k : Int)))]) (fun k G' => G') 0 rfl ?_ ?_ (fun _ _ h => h) ?_ ?_ ?_
 ·exact ⟨Nat.zero_le _, by simp⟩
 ·exact zF
 ·rintro k hI
  exact zL
 ·exact fun _ _ _ _ h => .inl h
 rintro k hI
 dsimp only at hI ⊢
 refine yS fun _ K7 => ?_
 refine yS fun _ K8 => ?_
 refine yR ?_
 refine yM rfl rfl ?_
 refine yM rfl rfl ?_
 refine aa rfl (bg rfl rfl (List.length_map _)) ?_
 refine aa rfl (cb rfl rfl rfl) ?_
 refine yN ?_
 dsimp only [St.put]
 refine K8 _ ?_
 refine am rfl (fun hc => ?_) (fun hc => ?_)
 ·replace hc := of_decide_eq_true hc
  obtain ⟨x, hx⟩ : ∃ x, a[k]? = some x := c7 (by omega)
  obtain ⟨y, hy⟩ : ∃ y, b[k]? = some y := c7 (by omega)
  refine av ?_
  refine K7 _ ?_
  refine yS fun _ K9 => ?_
  refine az ?_
  refine yS fun _ K10 => ?_
  refine gu [(0, none), (1, none), (2, none), (3, none), (4, none), (5, none), (6, none), (7, none), (8, none)] (fun i => [].contains i) (fun i => [].contains i) (fun i => [0, 1, 2, 4, 5, 6, 8].contains i) [] (by kernel_rfl) (by kernel_rfl) ?_
  refine xM rfl rfl rfl rfl rfl ?_
  refine xM rfl rfl rfl rfl rfl ?_
  try dsimp only [St.put]
  refine ah rfl rfl rfl rfl (bp rfl rfl rfl rfl (bk (by assumption)) (Enc.len _)) ?_
  try dsimp only [St.put]
  refine ay rfl rfl rfl rfl (ca rfl rfl) ?_
  refine xM rfl rfl rfl rfl rfl ?_
  refine xM rfl rfl rfl rfl rfl ?_
  try dsimp only [St.put]
  refine ah rfl rfl rfl rfl (bp rfl rfl rfl rfl (bk (by assumption)) (Enc.len _)) ?_
  try dsimp only [St.put]
  refine ay rfl rfl rfl rfl (ca rfl rfl) ?_
  refine ah rfl rfl rfl rfl (et rfl rfl rfl) ?_
  refine ci ?_
  dsimp only [St.put]
  refine K10 _ ?_
  refine am rfl (fun hc => ?_) (fun hc => ?_)
  ·have hxy := i9 hc
   refine yS fun _ K11 => ?_
   refine yR ?_
   refine yA rfl rfl ?_
   refine yN ?_
   dsimp only [St.put]
   refine K11 _ ?_
   refine ar ?_
   refine bc rfl (by constructor) zN zS ?_
   exact vb (by simp [ucz hx hy hxy])
  have hxy := g3 hc
  refine av ?_
  refine K9 _ ?_
  refine yR ?_
  refine yM rfl rfl ?_
  refine aa rfl (bq rfl rfl rfl (by omega)) ?_
  refine yA rfl rfl ?_
  refine yN ?_
  dsimp only [St.put]
  exact ⟨k + 1, by omega, ⟨by omega, xn hI.2 hx (hxy ▸ hy)⟩, ⟨⟨rfl, rfl⟩, zF, zB, zN, zX⟩⟩
 replace hc := of_decide_eq_false hc
 refine cv ?_
 refine K5 _ ?_
 refine yS fun _ K12 => ?_
 refine yR ?_
 refine yA rfl rfl ?_
 refine yN ?_
 dsimp only [St.put]
 refine K12 _ ?_
 refine ar ?_
 refine bc rfl (by constructor) zN zS ?_
 exact vb (by
  have h1 := hI.2
  rw [fu (by omega), fu (by omega)] at h1
  simp [h1])
end Go.Proofs.YtbbdginipiljdaaGreatDoor
namespace Go.AB
open Go Go.RowKit
open Go.AB.Enc (cells)
open Go.PB (aw ai PlaceD ba bf bd bn aq af cj bj cz c5)
theorem bit_eq {s k : Nat} : (((s / 2 ^ k % 2 : Nat) : Int) = 1) ↔ s.testBit k = true := by
 rw [Nat.testBit_eq_decide_div_mod_eq, decide_eq_true_eq]
 omega
end Go.AB
namespace Go.Proofs.YtbbdginipiljdaaGreatDoor
set_option maxRecDepth 10000
open Go.RowKit Go.AB
open Go.AB.Enc (cells)
open Go.PB (aw ai PlaceD ba bf bd bn aq af cj bj cz c5)
end Go.Proofs.YtbbdginipiljdaaGreatDoor
namespace Go.AB
open Go Go.RowKit
open Go.AB.Enc (cells)
open Go.PB (aw ai PlaceD ba bf bd bn aq af cj bj cz c5)
theorem ua3 {l : List aq} {g : aq → Nat} (k : Nat) : d8 (l.take k) g ≤ d8 l g := by
 have h : d8 l g = d8 (l.take k) g + d8 (l.drop k) g := by
  unfold d8
  rw [← List.sum_append, ← List.map_append, List.take_append_drop]
 omega
theorem ukr {p : af} {b : Bool} {i : Nat} {r : bn} (h : (di p b)[i]? = some r) : jm p b i = r.miss := by unfold jm; rw [h]
theorem umo (R : Nat → Int) (S : Nat → Bool) (k : Nat) : fR R S (k + 1) = fR R S k + bif S k then R k else 0 := rfl
theorem uen (p : af) (C : Nat → Int) (S : Nat → Bool) (k : Nat) : fC p C S (k + 1) = fC p C S k + bif (bi p).hit S k then 0 else C k := rfl
end Go.AB
namespace Go.Proofs.YtbbdginipiljdaaGreatDoor
set_option maxRecDepth 10000
open Go.RowKit Go.AB
open Go.AB.Enc (cells)
open Go.PB (aw ai PlaceD ba bf bd bn aq af cj bj cz c5)
end Go.Proofs.YtbbdginipiljdaaGreatDoor
namespace Go.Proofs.YtbbdginipiljdaaGreatDoor
set_option maxRecDepth 10000
open Go Go.RowKit Go.AB
open Go.AB.Enc (cells)
open Go.PB (aw ai PlaceD ba bf bd bn aq af cj bj cz c5)
theorem uh3 (p : af) : Pure Tryz.prog 157 [val p] (lst p.firsts) := by
 refine ct Tryz.func157 rfl (fun m => (br _ _)) fun G nx => ?_
 simp only [Tryz.ntmps157, List.length_cons, List.length_nil, Nat.reduceAdd, Nat.reduceSub]
 refine bu fun hlt => ?_
 dsimp only at hlt
 refine yS fun _ K1 => ?_
 refine yR ?_
 try dsimp only [St.put]
 refine yB rfl rfl rfl ?_
 refine yA rfl rfl ?_
 refine yN ?_
 dsimp only [St.put]
 refine K1 _ ?_
 refine yS fun _ K2 => ?_
 refine yR ?_
 refine yF rfl rfl rfl rfl ?_
 refine yL rfl rfl rfl ?_
 refine yA rfl rfl ?_
 refine yN ?_
 dsimp only [St.put]
 refine K2 _ ?_
 refine ar ?_
 refine bc rfl (by constructor) zN zS ?_
 rfl
theorem uh2 (x : aq) : Pure Tryz.prog 158 [val x] (.v (.int .i64 x.fst)) := by
 refine ct Tryz.func158 rfl (fun m => .v) fun G nx => ?_
 simp only [Tryz.ntmps158, List.length_cons, List.length_nil, Nat.reduceAdd, Nat.reduceSub]
 refine bu fun hlt => ?_
 dsimp only at hlt
 refine yS fun _ K1 => ?_
 refine yR ?_
 try dsimp only [St.put]
 refine yB rfl rfl rfl ?_
 refine yA rfl rfl ?_
 refine yN ?_
 dsimp only [St.put]
 refine K1 _ ?_
 refine yS fun _ K2 => ?_
 refine yR ?_
 refine yF rfl rfl rfl rfl ?_
 refine yL rfl rfl rfl ?_
 refine yA rfl rfl ?_
 refine yN ?_
 dsimp only [St.put]
 refine K2 _ ?_
 refine ar ?_
 refine bc rfl (by constructor) zN zS ?_
 rfl
theorem uh1 (x : aq) : Pure Tryz.prog 159 [val x] (lst x.found) := by
 refine ct Tryz.func159 rfl (fun m => (br _ _)) fun G nx => ?_
 simp only [Tryz.ntmps159, List.length_cons, List.length_nil, Nat.reduceAdd, Nat.reduceSub]
 refine bu fun hlt => ?_
 dsimp only at hlt
 refine yS fun _ K1 => ?_
 refine yR ?_
 try dsimp only [St.put]
 refine yB rfl rfl rfl ?_
 refine yA rfl rfl ?_
 refine yN ?_
 dsimp only [St.put]
 refine K1 _ ?_
 refine yS fun _ K2 => ?_
 refine yR ?_
 refine yF rfl rfl rfl rfl ?_
 refine yL rfl rfl rfl ?_
 refine yA rfl rfl ?_
 refine yN ?_
 dsimp only [St.put]
 refine K2 _ ?_
 refine ar ?_
 refine bc rfl (by constructor) zN zS ?_
 rfl
theorem uh0 (p : af) : Pure Tryz.prog 160 [val p] (lst p.seconds) := by
 refine ct Tryz.func160 rfl (fun m => (br _ _)) fun G nx => ?_
 simp only [Tryz.ntmps160, List.length_cons, List.length_nil, Nat.reduceAdd, Nat.reduceSub]
 refine bu fun hlt => ?_
 dsimp only at hlt
 refine yS fun _ K1 => ?_
 refine yR ?_
 try dsimp only [St.put]
 refine yB rfl rfl rfl ?_
 refine yA rfl rfl ?_
 refine yN ?_
 dsimp only [St.put]
 refine K1 _ ?_
 refine yS fun _ K2 => ?_
 refine yR ?_
 refine yF rfl rfl rfl rfl ?_
 refine yL rfl rfl rfl ?_
 refine yA rfl rfl ?_
 refine yN ?_
 dsimp only [St.put]
 refine K2 _ ?_
 refine ar ?_
 refine bc rfl (by constructor) zN zS ?_
 rfl
theorem uhz (x : aq) : Pure Tryz.prog 161 [val x] (.v (.int .i64 x.snd)) := by
 refine ct Tryz.func161 rfl (fun m => .v) fun G nx => ?_
 simp only [Tryz.ntmps161, List.length_cons, List.length_nil, Nat.reduceAdd, Nat.reduceSub]
 refine bu fun hlt => ?_
 dsimp only at hlt
 refine yS fun _ K1 => ?_
 refine yR ?_
 try dsimp only [St.put]
 refine yB rfl rfl rfl ?_
 refine yA rfl rfl ?_
 refine yN ?_
 dsimp only [St.put]
 refine K1 _ ?_
 refine yS fun _ K2 => ?_
 refine yR ?_
 refine yF rfl rfl rfl rfl ?_
 refine yL rfl rfl rfl ?_
 refine yA rfl rfl ?_
 refine yN ?_
 dsimp only [St.put]
 refine K2 _ ?_
 refine ar ?_
 refine bc rfl (by constructor) zN zS ?_
 rfl
theorem uhy (x : aq) : Pure Tryz.prog 162 [val x] (lst x.well) := by
 refine ct Tryz.func162 rfl (fun m => (br _ _)) fun G nx => ?_
 simp only [Tryz.ntmps162, List.length_cons, List.length_nil, Nat.reduceAdd, Nat.reduceSub]
 refine bu fun hlt => ?_
 dsimp only at hlt
 refine yS fun _ K1 => ?_
 refine yR ?_
 try dsimp only [St.put]
 refine yB rfl rfl rfl ?_
 refine yA rfl rfl ?_
 refine yN ?_
 dsimp only [St.put]
 refine K1 _ ?_
 refine yS fun _ K2 => ?_
 refine yR ?_
 refine yF rfl rfl rfl rfl ?_
 refine yL rfl rfl rfl ?_
 refine yA rfl rfl ?_
 refine yN ?_
 dsimp only [St.put]
 refine K2 _ ?_
 refine ar ?_
 refine bc rfl (by constructor) zN zS ?_
 rfl
def sRd (b : Bool) : FuncId := bif b then 160 else 157
def sFt (b : Bool) : FuncId := bif b then 161 else 158
def sFd (b : Bool) : FuncId := bif b then 162 else 159
instance (b : Bool) : Fun Tryz.prog (sRd b) := by
 cases b
 ·exact inferInstanceAs (Fun Tryz.prog 157)
 exact inferInstanceAs (Fun Tryz.prog 160)
instance (b : Bool) : Fun Tryz.prog (sFt b) := by
 cases b
 ·exact inferInstanceAs (Fun Tryz.prog 158)
 exact inferInstanceAs (Fun Tryz.prog 161)
instance (b : Bool) : Fun Tryz.prog (sFd b) := by
 cases b
 ·exact inferInstanceAs (Fun Tryz.prog 159)
 exact inferInstanceAs (Fun Tryz.prog 162)
theorem oz (b : Bool) (p : af) : Pure Tryz.prog (sRd b) [val p] (lst (di p b)) := by
 cases b
 ·exact uh3 p
 exact uh0 p
theorem x5 (b : Bool) (x : aq) : Pure Tryz.prog (sFt b) [val x] (.v (.int .i64 (d9 b x))) := by
 cases b
 ·exact uh2 x
 exact uhz x
theorem ubn (b : Bool) (x : aq) : Pure Tryz.prog (sFd b) [val x] (lst (dc b x)) := by
 cases b
 ·exact uh1 x
 exact uhy x
abbrev nm (b : Bool) : List C := [.fn (.func (sRd b)) [], .fn (.func (sFt b)) [], .fn (.func (sFd b)) []]
abbrev sidL : List C := nm false ++ nm true
abbrev eg : GObj := .fact (.pointer (some ⟨0, 0, none⟩)) (.elem sidL)
abbrev j8 (p : af) : List C := [lst p.text, lst p.firsts, lst p.seconds, lst p.pages, lst (p.pages.map fun x => (el p.text x : Int)), lst (p.pages.map (dm p.text)), lst (p.pages.map (d7 p.text))]
theorem u6 : ∀ {k : Nat}, k < 2 → (sidL.drop (k * 3)).take 3 = nm (decide (k = 1))
 | 0, _ => rfl
 | 1, _ => rfl
 | k + 2, h => by omega
set_option maxHeartbeats 1000000 in
theorem ucb (p : af) (b : Bool) (i : Nat) (h : dg p) (hi : i < (di p b).length) : Pure Tryz.prog 77 [.elem (j8 p), .agg (nm b), .v (.int .i64 (i : Int))] (.tup [.v (.int .i64 (cw p b i)), .v (.int .i64 (k8 p b i))]) := by
 refine ct Tryz.func77 rfl (fun m => .tup (cc .v (cc .v da))) fun G nx => ?_
 simp only [Tryz.ntmps77, List.length_cons, List.length_nil, Nat.reduceAdd, Nat.reduceSub]
 refine bu fun hlt => ?_
 dsimp only at hlt
 have hown := ucm h b (i : Int)
 have hrd := uby h b (i : Int)
 have hal := nh h.text
 have hnp := h.np
 have hmb := yx h b i
 obtain ⟨r, hr⟩ : ∃ r, (di p b)[i]? = some r := c7 hi
 have hmr := ukr hr
 refine yS fun _ K1 => ?_
 refine yR ?_
 try dsimp only [St.put]
 refine yB rfl rfl rfl ?_
 refine yA rfl rfl ?_
 refine yA rfl rfl ?_
 refine yN ?_
 dsimp only [St.put]
 refine K1 _ ?_
 refine yS fun _ K2 => ?_
 refine yR ?_
 refine yA rfl rfl ?_
 refine yA rfl rfl ?_
 refine yN ?_
 dsimp only [St.put]
 refine K2 _ ?_
 refine yS fun _ K3 => ?_
 refine yS fun _ K4 => ?_
 refine yR ?_
 refine yM rfl rfl ?_
 refine aa rfl (ky rfl rfl) ?_
 refine yF rfl rfl rfl rfl ?_
 refine yF rfl rfl rfl rfl ?_
 refine yL rfl rfl rfl ?_
 refine aa rfl (bg rfl rfl (List.length_map _)) ?_
 refine yM rfl rfl ?_
 refine yN ?_
 dsimp only [St.put]
 refine K4 _ ?_
 refine az ?_
 refine ce 20 ?_
 refine zQ ?_
 refine cy (G) zX ?_
 dsimp only
 refine cx (X := Nat) (fun k => k ≤ p.pages.length) (fun k => p.pages.length - k) (fun k => [(8, .v (.int .i64 ((d8 (p.pages.take k) (gm b (i : Int)) : Nat) : Int))), (9, .v (.int .i64 ((d8 (p.pages.take k) (iq p.text b (i : Int)) : Nat) : Int))), (10, .any), (11, .any), (19, .v (.int .i64 (k : Int)))]) (fun k G' => G') 0 rfl ?_ ?_ (fun _ _ h => h) ?_ ?_ ?_
 ·exact Nat.zero_le _
 ·exact zF
 ·rintro k hI
  exact zL
 ·exact fun _ _ _ _ h => .inl h
 rintro k hI
 dsimp only at hI ⊢
 refine yS fun _ K5 => ?_
 refine yR ?_
 refine aa rfl (cb rfl rfl rfl) ?_
 refine yN ?_
 dsimp only [St.put]
 refine K5 _ ?_
 refine yS fun _ K6 => ?_
 refine am rfl (fun hc => ?_) (fun hc => ?_)
 ·replace hc := of_decide_eq_true hc
  obtain ⟨x, hx⟩ : ∃ x, p.pages[k]? = some x := c7 (by omega)
  have hax : (p.pages.map (dm p.text))[k]? = some (dm p.text x) := by rw [List.getElem?_map, hx]; rfl
  have hp := pageB_true.1 (h.page k x hx)
  have hfd : (dc b x).length ≤ 600 := by
   have hfl := pi hp.found
   have hwl := pi hp.well
   cases b
   ·show x.found.length ≤ 600
    omega
   show x.well.length ≤ 600
   omega
  have hgl := ua p.text x
  have ht1 := ua3 (l := p.pages) (g := gm b (i : Int)) k
  have ht2 := ua3 (l := p.pages) (g := iq p.text b (i : Int)) k
  refine av ?_
  refine K6 _ ?_
  refine yS fun _ K7 => ?_
  refine az ?_
  refine yS fun _ K8 => ?_
  refine yR ?_
  refine yM rfl rfl ?_
  refine aa rfl (bp rfl rfl rfl rfl (bk (by assumption)) (Enc.len _)) ?_
  refine yE rfl rfl rfl ?_
  try dsimp only [St.put]
  refine ae rfl (dr rfl ?_)
  refine yA rfl rfl ?_
  try dsimp only [St.put]
  refine ae rfl (c6 rfl rfl rfl zG rfl rfl (by rfl) ?_)
  refine yN ?_
  dsimp only [St.put]
  refine K8 _ ?_
  refine gh (i := 11) rfl zG zC ?_
  dsimp only
  refine yS fun _ K9 => ?_
  refine yR ?_
  refine yF rfl rfl rfl rfl ?_
  refine yL rfl rfl rfl ?_
  refine yE rfl rfl rfl ?_
  try dsimp only [St.put]
  refine ae rfl (ax rfl rfl rfl (x5 b x) ?_)
  refine yM rfl rfl ?_
  refine aa rfl (fg rfl rfl rfl) ?_
  refine yN ?_
  dsimp only [St.put]
  refine K9 _ ?_
  refine am rfl (fun hc => ?_) (fun hc => ?_)
  ·have hyes : d9 b x = (i : Int) := of_decide_eq_true hc
   refine yS fun _ K10 => ?_
   refine yR ?_
   refine yM rfl rfl ?_
   refine yF rfl rfl rfl rfl ?_
   refine yL rfl rfl rfl ?_
   refine yE rfl rfl rfl ?_
   try dsimp only [St.put]
   refine ae rfl (ax rfl rfl rfl (ubn b x) ?_)
   refine aa rfl (bg rfl rfl (List.length_map _)) ?_
   refine aa rfl (bq rfl rfl rfl (by omega)) ?_
   refine yA rfl rfl ?_
   refine yN ?_
   dsimp only [St.put]
   refine K10 _ ?_
   refine yR ?_
   refine yM rfl rfl ?_
   refine yM rfl rfl ?_
   refine aa rfl (ky rfl rfl) ?_
   refine yF rfl rfl rfl rfl ?_
   refine yL rfl rfl rfl ?_
   refine yM rfl rfl ?_
   refine aa rfl (bp rfl rfl rfl rfl (bk (by assumption)) (Enc.len _)) ?_
   refine yL rfl rfl rfl ?_
   refine aa rfl (bg rfl rfl (List.length_map _)) ?_
   refine aa rfl (bq rfl rfl rfl (by omega)) ?_
   refine yA rfl rfl ?_
   refine yN ?_
   dsimp only [St.put]
   refine K7 _ ?_
   refine yR ?_
   refine aa rfl (bq rfl rfl rfl (by omega)) ?_
   refine yM rfl rfl ?_
   refine yN ?_
   dsimp only [St.put]
   have e1 := sn (g := gm b (i : Int)) hx
   have e2 := sn (g := iq p.text b (i : Int)) hx
   first
   | (have z : d9 b x = (i : Int) := hyes
      rw [show ((d8 (p.pages.take k) (gm b (i : Int)) : Nat) : Int) + ((dc b x).length : Int) = ((d8 (p.pages.take (k + 1)) (gm b (i : Int)) : Nat) : Int) by rw [e1]; unfold gm; rw [decide_eq_true z, cond_true]; rfl, show ((d8 (p.pages.take k) (iq p.text b (i : Int)) : Nat) : Int) + ((dm p.text x).length : Int) = ((d8 (p.pages.take (k + 1)) (iq p.text b (i : Int)) : Nat) : Int) by rw [e2]; unfold iq; rw [decide_eq_true z, cond_true]; rfl]
      exact ⟨k + 1, by omega, by omega, ⟨⟨rfl, rfl⟩, zF, zB, zN, zX⟩⟩)
   | (have z : ¬ d9 b x = (i : Int) := hno
      rw [show d8 (p.pages.take k) (gm b (i : Int)) = d8 (p.pages.take (k + 1)) (gm b (i : Int)) by rw [e1]; unfold gm; rw [decide_eq_false z]; rfl, show d8 (p.pages.take k) (iq p.text b (i : Int)) = d8 (p.pages.take (k + 1)) (iq p.text b (i : Int)) by rw [e2]; unfold iq; rw [decide_eq_false z]; rfl]
      exact ⟨k + 1, by omega, by omega, ⟨⟨rfl, rfl⟩, zF, zB, zN, zX⟩⟩)
  have hno : ¬ d9 b x = (i : Int) := of_decide_eq_false hc
  refine av ?_
  refine K7 _ ?_
  refine yR ?_
  refine aa rfl (bq rfl rfl rfl (by omega)) ?_
  refine yM rfl rfl ?_
  refine yN ?_
  dsimp only [St.put]
  have e1 := sn (g := gm b (i : Int)) hx
  have e2 := sn (g := iq p.text b (i : Int)) hx
  first
  | (have z : d9 b x = (i : Int) := hyes
     rw [show ((d8 (p.pages.take k) (gm b (i : Int)) : Nat) : Int) + ((dc b x).length : Int) = ((d8 (p.pages.take (k + 1)) (gm b (i : Int)) : Nat) : Int) by rw [e1]; unfold gm; rw [decide_eq_true z, cond_true]; rfl, show ((d8 (p.pages.take k) (iq p.text b (i : Int)) : Nat) : Int) + ((dm p.text x).length : Int) = ((d8 (p.pages.take (k + 1)) (iq p.text b (i : Int)) : Nat) : Int) by rw [e2]; unfold iq; rw [decide_eq_true z, cond_true]; rfl]
     exact ⟨k + 1, by omega, by omega, ⟨⟨rfl, rfl⟩, zF, zB, zN, zX⟩⟩)
  | (have z : ¬ d9 b x = (i : Int) := hno
     rw [show d8 (p.pages.take k) (gm b (i : Int)) = d8 (p.pages.take (k + 1)) (gm b (i : Int)) by rw [e1]; unfold gm; rw [decide_eq_false z]; rfl, show d8 (p.pages.take k) (iq p.text b (i : Int)) = d8 (p.pages.take (k + 1)) (iq p.text b (i : Int)) by rw [e2]; unfold iq; rw [decide_eq_false z]; rfl]
     exact ⟨k + 1, by omega, by omega, ⟨⟨rfl, rfl⟩, zF, zB, zN, zX⟩⟩)
 replace hc := of_decide_eq_false hc
 obtain rfl : k = p.pages.length := by omega
 rw [fu (Nat.le_refl p.pages.length)]
 refine cv ?_
 refine K3 _ ?_
 refine yS fun _ K11 => ?_
 refine gu [(0, none), (1, none), (2, none), (3, none), (4, none), (5, none), (6, none), (7, none), (9, none), (8, none), (10, none), (11, none), (12, none), (13, none), (14, none), (15, none)] (fun i => [8, 12].contains i) (fun i => [8, 12].contains i) (fun i => [0, 1, 2, 4, 5, 6, 9, 10, 11, 13, 14, 15].contains i) [] (by kernel_rfl) (by kernel_rfl) ?_
 refine xM rfl rfl rfl rfl rfl ?_
 refine ah rfl rfl rfl rfl (yu rfl rfl rfl (by omega)) ?_
 refine ah rfl rfl rfl rfl (co rfl rfl rfl) ?_
 try dsimp only [St.put]
 refine ay rfl rfl rfl rfl (ca rfl rfl) ?_
 refine xM rfl rfl rfl rfl rfl ?_
 refine ah rfl rfl rfl rfl (ky rfl rfl) ?_
 refine ah rfl rfl rfl rfl (co rfl rfl rfl) ?_
 try dsimp only [St.put]
 refine ay rfl rfl rfl rfl (c := val p) (ju (cs := j8 p) rfl rfl (show 4 ≤ 7 by decide)) ?_
 refine xM rfl rfl rfl rfl rfl ?_
 refine jg ?_
 try dsimp only [St.put]
 refine il rfl rfl rfl rfl (ax rfl rfl rfl (oz b p) ?_)
 try dsimp only [St.put]
 refine ef rfl rfl rfl rfl (bp rfl rfl rfl rfl (bk (by assumption)) (Enc.len _)) ?_
 refine ef rfl rfl rfl rfl (co rfl rfl rfl) ?_
 try dsimp only [St.put]
 refine il rfl rfl rfl rfl (SStep.e' (D := fun _ => True) (ca rfl rfl) ?_)
 refine ef rfl rfl rfl rfl (f7 rfl rfl rfl (by omega)) ?_
 refine ef rfl rfl rfl rfl (yr rfl rfl rfl (by omega) (by omega)) ?_
 refine ef rfl rfl rfl rfl (fh rfl (by constructor)) ?_
 refine jf ?_
 dsimp only [St.put]
 rw [show (100 * ((d8 p.pages (gm b (i : Int)) : Nat) : Int)) / (100 - r.miss) = cw p b i by unfold cw; rw [hmr]]
 have hbd := oh h b i
 refine K11 _ ?_
 refine yS fun _ K12 => ?_
 refine yR ?_
 refine yM rfl rfl ?_
 refine yM rfl rfl ?_
 refine yM rfl rfl ?_
 refine aa rfl (f7 rfl rfl rfl (by omega)) ?_
 refine yA rfl rfl ?_
 refine yA rfl rfl ?_
 refine yN ?_
 dsimp only [St.put]
 refine K12 _ ?_
 refine ar ?_
 refine j4 rfl (by constructor) (by constructor) zN zS ?_ ?_
 ·rfl
 exact vi (by unfold k8; rfl)
end Go.Proofs.YtbbdginipiljdaaGreatDoor
namespace Go.AB
open Go Go.RowKit
open Go.AB.Enc (cells)
open Go.PB (aw ai PlaceD ba bf bd bn aq af cj bj cz c5)
theorem uiz {p : af} (h : dg p) {j : Nat} {x : aq} (hx : p.pages[j]? = some x) {k : Nat} (hk : k < (dd p x).length) : ∃ zn : Nat, (dd p x)[k]? = some (zn : Int) ∧ zn ≤ 6 := by
 have hp := pageB_true.1 (h.page j x hx)
 have h1 := hp.fst
 have h2 := hp.snd
 have h3 := h.nf
 have h4 := h.ns
 obtain ⟨z, hz⟩ : ∃ z, (dd p x)[k]? = some z := ⟨_, List.getElem?_eq_getElem hk⟩
 have hm := List.mem_of_getElem? hz
 have hb : 0 ≤ z ∧ z ≤ 6 := by
  unfold dd at hm
  rw [List.mem_append] at hm
  rcases hm with hm | hm
  ·by_cases q : 0 ≤ x.fst
   ·rw [decide_eq_true q, cond_true, List.mem_singleton] at hm; omega
   rw [decide_eq_false q] at hm; cases hm
  by_cases q : 0 ≤ x.snd
  ·rw [decide_eq_true q, cond_true, List.mem_singleton] at hm; omega
  rw [decide_eq_false q] at hm; cases hm
 exact ⟨z.toNat, by rw [hz]; congr 1; omega, by omega⟩
theorem yc (p : af) (x : aq) : (dd p x).length ≤ 2 := by
 unfold dd
 rw [List.length_append]
 cases decide (0 ≤ x.fst) <;> cases decide (0 ≤ x.snd) <;> simp
end Go.AB
namespace Go.Proofs.YtbbdginipiljdaaGreatDoor
set_option maxRecDepth 10000
open Go.RowKit Go.AB
open Go.AB.Enc (cells)
open Go.PB (aw ai PlaceD ba bf bd bn aq af cj bj cz c5)
end Go.Proofs.YtbbdginipiljdaaGreatDoor
namespace Go.Proofs.YtbbdginipiljdaaGreatDoor
set_option maxRecDepth 10000
open Go.RowKit Go.AB
open Go.AB.Enc (cells)
open Go.PB (aw ai PlaceD ba bf bd bn aq af cj bj cz c5)
end Go.Proofs.YtbbdginipiljdaaGreatDoor
namespace Go.AB
open Go Go.RowKit
open Go.AB.Enc (cells)
open Go.PB (aw ai PlaceD ba bf bd)
theorem lt3 {a b c a' b' c' : Int} : ey [a, b, c] [a', b', c'] < 0 ↔ a < a' ∨ a = a' ∧ (b < b' ∨ b = b' ∧ c < c') := by
 rw [ng (a := [a, b, c]) (b := [a', b', c']) rfl]; simp [ltW]
end Go.AB
namespace Go.Proofs.YtbbdginipiljdaaGreatDoor
set_option maxRecDepth 10000
open Go.RowKit Go.AB
open Go.AB.Enc (cells)
open Go.PB (aw ai PlaceD ba bf bd)
theorem uf8 (a b : PlaceD) : Pure Tryz.prog 121 [val a, val b] (.v (.bool (decide (ey (c4 a) (c4 b) < 0)))) := by
 refine ct Tryz.func121 rfl (fun m => .v) fun G nx => ?_
 simp only [Tryz.ntmps121, List.length_cons, List.length_nil, Nat.reduceAdd, Nat.reduceSub]
 refine bu fun hlt => ?_
 dsimp only at hlt
 refine yS fun _ K1 => ?_
 refine yR ?_
 try dsimp only [St.put]
 refine yB rfl rfl rfl ?_
 try dsimp only [St.put]
 refine yB rfl rfl rfl ?_
 refine yA rfl rfl ?_
 refine yN ?_
 dsimp only [St.put]
 refine K1 _ ?_
 refine yS fun _ K2 => ?_
 refine yS fun _ K3 => ?_
 refine yR ?_
 refine yF rfl rfl rfl rfl ?_
 refine yL rfl rfl rfl ?_
 refine yF rfl rfl rfl rfl ?_
 refine yL rfl rfl rfl ?_
 refine aa rfl (et rfl rfl rfl) ?_
 refine yN ?_
 dsimp only [St.put]
 refine K3 _ ?_
 refine am rfl (fun hc => ?_) (fun hc => ?_)
 ·have h1 : a.ch ≠ b.ch := i9 hc
  refine yS fun _ K4 => ?_
  refine yR ?_
  refine yF rfl rfl rfl rfl ?_
  refine yL rfl rfl rfl ?_
  refine yF rfl rfl rfl rfl ?_
  refine yL rfl rfl rfl ?_
  refine aa rfl (cb rfl rfl rfl) ?_
  refine yA rfl rfl ?_
  refine yN ?_
  dsimp only [St.put]
  refine K4 _ ?_
  refine ar ?_
  refine bc rfl (by constructor) zN zS ?_
  exact vb (by rw [decide_eq_decide, c4, c4, lt3]; omega)
 have h1 : a.ch = b.ch := g3 hc
 refine av ?_
 refine K2 _ ?_
 refine yS fun _ K5 => ?_
 refine yS fun _ K6 => ?_
 refine yR ?_
 refine yF rfl rfl rfl rfl ?_
 refine yL rfl rfl rfl ?_
 refine yF rfl rfl rfl rfl ?_
 refine yL rfl rfl rfl ?_
 refine aa rfl (et rfl rfl rfl) ?_
 refine yN ?_
 dsimp only [St.put]
 refine K6 _ ?_
 refine am rfl (fun hc => ?_) (fun hc => ?_)
 ·have h2 : a.ln ≠ b.ln := i9 hc
  refine yS fun _ K7 => ?_
  refine yR ?_
  refine yF rfl rfl rfl rfl ?_
  refine yL rfl rfl rfl ?_
  refine yF rfl rfl rfl rfl ?_
  refine yL rfl rfl rfl ?_
  refine aa rfl (cb rfl rfl rfl) ?_
  refine yA rfl rfl ?_
  refine yN ?_
  dsimp only [St.put]
  refine K7 _ ?_
  refine ar ?_
  refine bc rfl (by constructor) zN zS ?_
  exact vb (by rw [decide_eq_decide, c4, c4, lt3]; omega)
 have h2 : a.ln = b.ln := g3 hc
 refine av ?_
 refine K5 _ ?_
 refine yS fun _ K8 => ?_
 refine yR ?_
 refine yF rfl rfl rfl rfl ?_
 refine yL rfl rfl rfl ?_
 refine yF rfl rfl rfl rfl ?_
 refine yL rfl rfl rfl ?_
 refine aa rfl (cb rfl rfl rfl) ?_
 refine yA rfl rfl ?_
 refine yN ?_
 dsimp only [St.put]
 refine K8 _ ?_
 refine ar ?_
 refine bc rfl (by constructor) zN zS ?_
 exact vb (by rw [decide_eq_decide, c4, c4, lt3]; omega)
end Go.Proofs.YtbbdginipiljdaaGreatDoor
namespace Go.Proofs.YtbbdginipiljdaaGreatDoor
set_option maxRecDepth 10000
open Go.RowKit Go.AB
open Go.AB.Enc (cells)
open Go.PB (aw ai PlaceD ba bf bd bn aq af cj bj cz c5)
set_option maxHeartbeats 1000000 in
theorem ub0 (t : ai) (x : aq) (r : Int) (l : List PlaceD) (ht : dp t = true) : Pure Tryz.prog 108 [i1 t, val x, .v (.int .i64 r), lst l] (.v (.bool (g5 t x r l))) := by
 refine ct Tryz.func108 rfl (fun m => .v) fun G nx => ?_
 simp only [Tryz.ntmps108, List.length_cons, List.length_nil, Nat.reduceAdd, Nat.reduceSub]
 refine bu fun hlt => ?_
 dsimp only at hlt
 refine ki 3 (fun hfl => ?_)
 have hl0 := (fit_lst.1 hfl).1
 refine yS fun _ K1 => ?_
 refine yR ?_
 try dsimp only [St.put]
 refine yB rfl rfl rfl ?_
 try dsimp only [St.put]
 refine yB rfl rfl rfl ?_
 refine yA rfl rfl ?_
 refine yN ?_
 dsimp only [St.put]
 refine K1 _ ?_
 refine yS fun _ K2 => ?_
 refine yS fun _ K3 => ?_
 refine yR ?_
 refine yM rfl rfl ?_
 refine aa rfl (cb rfl rfl rfl) ?_
 refine em (fun hs => ?_) (fun hs => ?_)
 ·have s1 : r < 0 := of_decide_eq_true hs
  refine yM rfl rfl ?_
  refine yM rfl rfl ?_
  refine aa rfl (bg rfl rfl (List.length_map _)) ?_
  refine aa rfl (g4 rfl rfl rfl) ?_
  refine aa rfl (bw rfl rfl (by constructor)) ?_
  refine yN ?_
  dsimp only [St.put]
  refine K3 _ ?_
  refine am rfl (fun hc => ?_) (fun hc => ?_)
  ·have s2 : 0 < l.length := by
    have := of_decide_eq_true hc
    omega
   refine yS fun _ K4 => ?_
   refine yR ?_
   refine yA rfl rfl ?_
   refine yN ?_
   dsimp only [St.put]
   refine K4 _ ?_
   refine ar ?_
   refine bc rfl (by constructor) zN zS ?_
   exact vb (by
    have e1 : ¬ 0 ≤ r := by omega
    have e2 : l ≠ [] := fun e => by rw [e] at s2; exact absurd s2 (by simp)
    simp [g5, e1, e2])
  have s3 : (decide (0 ≤ r) || decide (l = [])) = true := by
   first
   | (rw [decide_eq_true (show 0 ≤ r by omega)]; rfl)
   | (have := of_decide_eq_false hc
      have : l = [] := List.eq_nil_of_length_eq_zero (by omega)
      simp [this])
  refine av ?_
  refine K2 _ ?_
  refine yS fun _ K5 => ?_
  refine yS fun _ K6 => ?_
  refine yR ?_
  refine yA rfl rfl ?_
  refine yN ?_
  dsimp only [St.put]
  refine K6 _ ?_
  refine az ?_
  refine ce 10 ?_
  refine zQ ?_
  refine cy (G) zX ?_
  dsimp only
  refine cx (X := Nat) (fun i => i ≤ l.length ∧ dn t x l i = true) (fun i => l.length - i) (fun i => [(9, .v (.int .i64 (i : Int)))]) (fun i G' => G') 0 rfl ?_ ?_ (fun _ _ h => h) ?_ ?_ ?_
  ·exact ⟨Nat.zero_le _, rfl⟩
  ·exact zF
  ·rintro i hI
   exact zL
  ·exact fun _ _ _ _ h => .inl h
  rintro i hI
  dsimp only at hI ⊢
  refine yS fun _ K7 => ?_
  refine yS fun _ K8 => ?_
  refine yR ?_
  refine yM rfl rfl ?_
  refine yM rfl rfl ?_
  refine aa rfl (bg rfl rfl (List.length_map _)) ?_
  refine aa rfl (cb rfl rfl rfl) ?_
  refine yN ?_
  dsimp only [St.put]
  refine K8 _ ?_
  refine am rfl (fun hc => ?_) (fun hc => ?_)
  ·replace hc := of_decide_eq_true hc
   obtain ⟨q, hq⟩ : ∃ q, l[i]? = some q := c7 (by omega)
   refine av ?_
   refine K7 _ ?_
   refine yS fun _ K9 => ?_
   refine az ?_
   refine ce 10 ?_
   refine zQ ?_
   refine kj (X := Bool) (fun d => ja t x l i = !d) (fun d => [(60, .v (.bool d))]) (fun d G' => G') rfl ?_ (fun _ _ _ _ h => .inl h) ?_ ?_
   ·rintro d hI
    exact zL
   ·refine ry [(0, none), (1, none), (2, none), (3, none), (4, none)] (fun _ => false) (fun i => [1, 2, 3].contains i) 33 (rl [5, 33]) (by kernel_rfl) (by kernel_rfl) ?_
    try dsimp only [St.put]
    refine ay rfl rfl rfl rfl (ep rfl rfl rfl) ?_
    refine xM rfl rfl rfl rfl rfl ?_
    refine xM rfl rfl rfl rfl rfl ?_
    try dsimp only [St.put]
    refine ah rfl rfl rfl rfl (bp rfl rfl rfl rfl (bk (by assumption)) (Enc.len _)) ?_
    try dsimp only [St.put]
    refine ay rfl rfl rfl rfl (ep rfl rfl (Enc.len _)) ?_
    refine ci ?_
    refine dv [5] (by kernel_rfl) (by simp) ?_
    refine du ?_ ?_
    ·try dsimp only [St.put]
     refine ir rfl rfl rfl (ax rfl rfl rfl (uf4 t q ht) ?_)
     refine eh [(6, none), (7, none), (8, none), (9, none), (10, none), (11, none), (12, none), (14, none), (15, none), (16, none), (17, none)] (fun i => [6, 7, 9, 10, 11, 14, 16].contains i) 21 (rl [13, 1, 4, 20]) (by kernel_rfl) ?_
     refine ah rfl rfl rfl rfl (dl rfl rfl) ?_
     refine jr (fun hs => ?_) (fun hs => ?_)
     ·have s4 := hs
      refine xM rfl rfl rfl rfl rfl ?_
      refine aj rfl rfl rfl ?_
      refine aj rfl rfl rfl ?_
      refine aj rfl rfl rfl ?_
      refine aj rfl rfl rfl ?_
      refine aj rfl rfl rfl ?_
      refine aj rfl rfl rfl ?_
      refine aj rfl rfl rfl ?_
      refine aj rfl rfl rfl ?_
      refine aj rfl rfl rfl ?_
      refine ci ?_
      refine dv [13] (by kernel_rfl) (by simp) ?_
      refine du ?_ ?_
      ·refine fy rfl rfl rfl ?_
       refine dv [18] (by kernel_rfl) (by simp) ?_
       refine du ?_ ?_
       ·refine fy rfl rfl rfl ?_
        refine eh [(19, none), (20, none), (21, none), (22, none), (23, none), (24, none), (25, none), (26, none), (27, none), (28, none), (29, none), (30, none), (31, none), (32, none), (33, none)] (fun i => [19, 20, 21, 22, 23, 24, 25, 26, 27, 28, 30, 31, 32].contains i) 4 (rl [34, 4]) (by kernel_rfl) ?_
        refine aj rfl rfl rfl ?_
        refine ah rfl rfl rfl rfl (bw rfl rfl (by constructor)) ?_
        refine xM rfl rfl rfl rfl rfl ?_
        refine aj rfl rfl rfl ?_
        refine aj rfl rfl rfl ?_
        refine aj rfl rfl rfl ?_
        refine aj rfl rfl rfl ?_
        refine aj rfl rfl rfl ?_
        refine aj rfl rfl rfl ?_
        refine aj rfl rfl rfl ?_
        refine aj rfl rfl rfl ?_
        refine aj rfl rfl rfl ?_
        refine aj rfl rfl rfl ?_
        refine aj rfl rfl rfl ?_
        refine aj rfl rfl rfl ?_
        refine ci ?_
        refine dv [34] (by kernel_rfl) (by simp) ?_
        refine du ?_ ?_
        ·refine fy rfl rfl rfl ?_
         refine eh [(35, none), (36, none), (37, none)] (fun i => [35, 36, 37].contains i) 0 (rl [38]) (by kernel_rfl) ?_
         refine aj rfl rfl rfl ?_
         refine aj rfl rfl rfl ?_
         refine ah rfl rfl rfl rfl (bw rfl rfl (by constructor)) ?_
         refine ci ?_
         dsimp only [St.put]
         refine im (by kernel_rfl) ?_
         refine ⟨_, ?_, ⟨⟨rfl, rfl⟩, zF, zB, zN, zX⟩⟩
         simp_all [ja, gz, mj]
         try (intro h0; omega)
        exact dt
       exact dt
      exact dt
     have hqp : ff t q = true := by simpa using hs
     refine xM rfl rfl rfl rfl rfl ?_
     try dsimp only [St.put]
     refine ay rfl rfl rfl rfl (ep rfl rfl rfl) ?_
     refine xM rfl rfl rfl rfl rfl ?_
     refine xM rfl rfl rfl rfl rfl ?_
     try dsimp only [St.put]
     refine ah rfl rfl rfl rfl (bp rfl rfl rfl rfl (bk (by assumption)) (Enc.len _)) ?_
     try dsimp only [St.put]
     refine ay rfl rfl rfl rfl (ep rfl rfl (Enc.len _)) ?_
     refine ah rfl rfl rfl rfl (co rfl rfl rfl) ?_
     try dsimp only [St.put]
     refine ay rfl rfl rfl rfl (ca rfl rfl) ?_
     refine ah rfl rfl rfl rfl (co rfl rfl rfl) ?_
     try dsimp only [St.put]
     refine ay rfl rfl rfl rfl (ca rfl rfl) ?_
     refine ci ?_
     refine dv [13] (by kernel_rfl) (by simp) ?_
     refine du ?_ ?_
     ·try dsimp only [St.put]
      refine ir rfl rfl rfl (ax rfl rfl rfl (ub2 t q ht hqp) ?_)
      refine dv [18] (by kernel_rfl) (by simp) ?_
      refine du ?_ ?_
      ·try dsimp only [St.put]
       refine ir rfl rfl rfl (ax rfl rfl rfl (qz _ _ _) ?_)
       refine eh [(19, none), (20, none), (21, none), (22, none), (23, none), (24, none), (25, none), (26, none), (27, none), (28, none), (29, none), (30, none), (31, none), (32, none), (33, none)] (fun i => [19, 20, 21, 22, 23, 24, 25, 26, 27, 28, 30, 31, 32].contains i) 4 (rl [34, 4]) (by kernel_rfl) ?_
       refine ah rfl rfl rfl rfl (dl rfl rfl) ?_
       refine jr (fun hs => ?_) (fun hs => ?_)
       ·have s5 := hs
        refine ah rfl rfl rfl rfl (cm rfl rfl (by constructor)) ?_
        refine xM rfl rfl rfl rfl rfl ?_
        refine aj rfl rfl rfl ?_
        refine aj rfl rfl rfl ?_
        refine aj rfl rfl rfl ?_
        refine aj rfl rfl rfl ?_
        refine aj rfl rfl rfl ?_
        refine aj rfl rfl rfl ?_
        refine aj rfl rfl rfl ?_
        refine aj rfl rfl rfl ?_
        refine aj rfl rfl rfl ?_
        refine aj rfl rfl rfl ?_
        refine aj rfl rfl rfl ?_
        refine aj rfl rfl rfl ?_
        refine ci ?_
        refine dv [34] (by kernel_rfl) (by simp) ?_
        refine du ?_ ?_
        ·refine fy rfl rfl rfl ?_
         refine eh [(35, none), (36, none), (37, none)] (fun i => [35, 36, 37].contains i) 0 (rl [38]) (by kernel_rfl) ?_
         refine aj rfl rfl rfl ?_
         refine aj rfl rfl rfl ?_
         refine ah rfl rfl rfl rfl (bw rfl rfl (by constructor)) ?_
         refine ci ?_
         dsimp only [St.put]
         refine im (by kernel_rfl) ?_
         refine ⟨_, ?_, ⟨⟨rfl, rfl⟩, zF, zB, zN, zX⟩⟩
         simp_all [ja, gz, mj]
         try (intro h0; omega)
        exact dt
       have s5 := hs
       refine ah rfl rfl rfl rfl (cm rfl rfl (by constructor)) ?_
       refine xM rfl rfl rfl rfl rfl ?_
       refine xM rfl rfl rfl rfl rfl ?_
       refine ah rfl rfl rfl rfl (g4 rfl rfl rfl) ?_
       refine jr (fun hs => ?_) (fun hs => ?_)
       ·have s6 : 0 < i := by
         have := of_decide_eq_true hs
         omega
        obtain ⟨q0, hq0⟩ : ∃ q0, l[i - 1]? = some q0 := c7 (by omega)
        refine xM rfl rfl rfl rfl rfl ?_
        refine xM rfl rfl rfl rfl rfl ?_
        refine xM rfl rfl rfl rfl rfl ?_
        refine ah rfl rfl rfl rfl (f7 rfl rfl rfl (by omega)) ?_
        try dsimp only [St.put]
        refine ah rfl rfl rfl rfl (bp (k := i - 1) rfl rfl rfl (by omega) (bk hq0) (Enc.len _)) ?_
        try dsimp only [St.put]
        refine ay rfl rfl rfl rfl (ep rfl rfl (Enc.len _)) ?_
        refine xM rfl rfl rfl rfl rfl ?_
        refine xM rfl rfl rfl rfl rfl ?_
        try dsimp only [St.put]
        refine ah rfl rfl rfl rfl (bp rfl rfl rfl rfl (bk (by assumption)) (Enc.len _)) ?_
        try dsimp only [St.put]
        refine ay rfl rfl rfl rfl (ep rfl rfl (Enc.len _)) ?_
        refine ci ?_
        refine dv [34] (by kernel_rfl) (by simp) ?_
        refine du ?_ ?_
        ·try dsimp only [St.put]
         refine ir rfl rfl rfl (ax rfl rfl rfl (uf8 q0 q) ?_)
         refine eh [(35, none), (36, none), (37, none)] (fun i => [35, 36, 37].contains i) 0 (rl [38]) (by kernel_rfl) ?_
         refine ah rfl rfl rfl rfl (dl rfl rfl) ?_
         refine ah rfl rfl rfl rfl (bw rfl rfl (by constructor)) ?_
         refine ah rfl rfl rfl rfl (cm rfl rfl (by constructor)) ?_
         refine ci ?_
         dsimp only [St.put]
         refine im (by kernel_rfl) ?_
         refine ⟨_, ?_, ⟨⟨rfl, rfl⟩, zF, zB, zN, zX⟩⟩
         simp_all [ja, gz, mj]
         try (intro h0; omega)
        exact dt
       have s6 : i = 0 := by
        have := of_decide_eq_false hs
        omega
       refine xM rfl rfl rfl rfl rfl ?_
       refine aj rfl rfl rfl ?_
       refine aj rfl rfl rfl ?_
       refine aj rfl rfl rfl ?_
       refine aj rfl rfl rfl ?_
       refine aj rfl rfl rfl ?_
       refine aj rfl rfl rfl ?_
       refine aj rfl rfl rfl ?_
       refine aj rfl rfl rfl ?_
       refine aj rfl rfl rfl ?_
       refine ci ?_
       refine dv [34] (by kernel_rfl) (by simp) ?_
       refine du ?_ ?_
       ·refine fy rfl rfl rfl ?_
        refine eh [(35, none), (36, none), (37, none)] (fun i => [35, 36, 37].contains i) 0 (rl [38]) (by kernel_rfl) ?_
        refine aj rfl rfl rfl ?_
        refine ah rfl rfl rfl rfl (cm rfl rfl (by constructor)) ?_
        refine ah rfl rfl rfl rfl (cm rfl rfl (by constructor)) ?_
        refine ci ?_
        dsimp only [St.put]
        refine im (by kernel_rfl) ?_
        refine ⟨_, ?_, ⟨⟨rfl, rfl⟩, zF, zB, zN, zX⟩⟩
        simp_all [ja, gz, mj]
        try (intro h0; omega)
       exact dt
      exact dt
     exact dt
    exact dt
   rintro d hst
   dsimp only at hst ⊢
   refine am rfl (fun hc => ?_) (fun hc => ?_)
   ·skip
    refine yS fun _ K11 => ?_
    refine yR ?_
    refine yA rfl rfl ?_
    refine yN ?_
    dsimp only [St.put]
    refine K11 _ ?_
    refine ar ?_
    refine bc rfl (by constructor) zN zS ?_
    exact vb (by
     have e : ja t x l i = false := by rw [hst, hc]; rfl
     have : dn t x l l.length = false := by
      refine List.all_eq_false.2 ⟨i, List.mem_range.2 (by omega), by rw [e]; simp⟩
     simp [g5, this])
   skip
   refine av ?_
   refine K9 _ ?_
   refine yR ?_
   refine yM rfl rfl ?_
   refine aa rfl (bq rfl rfl rfl (by omega)) ?_
   refine yA rfl rfl ?_
   refine yN ?_
   dsimp only [St.put]
   exact ⟨i + 1, by omega, ⟨by omega, by rw [gr, hI.2, hst, hc]; rfl⟩, ⟨⟨rfl, rfl⟩, zF, zB, zN, zX⟩⟩
  replace hc := of_decide_eq_false hc
  obtain rfl : i = l.length := by omega
  refine cv ?_
  refine K5 _ ?_
  refine yS fun _ K12 => ?_
  refine yR ?_
  refine yA rfl rfl ?_
  refine yN ?_
  dsimp only [St.put]
  refine K12 _ ?_
  refine ar ?_
  refine bc rfl (by constructor) zN zS ?_
  exact vb (by
   unfold g5
   rw [hI.2, Bool.and_true]
   first
   | exact s3.symm
   | (have e1 : 0 ≤ r := by omega
      simp [e1]))
 have s1 : ¬ r < 0 := of_decide_eq_false hs
 refine yM rfl rfl ?_
 refine yK rfl ?_
 refine yK rfl ?_
 refine yK rfl ?_
 refine aa rfl (cm rfl rfl (by constructor)) ?_
 refine yN ?_
 dsimp only [St.put]
 refine K3 _ ?_
 refine am rfl (fun h => by cases h) (fun _ => ?_)
 have s3 : (decide (0 ≤ r) || decide (l = [])) = true := by
  first
  | (rw [decide_eq_true (show 0 ≤ r by omega)]; rfl)
  | (have := of_decide_eq_false hc
     have : l = [] := List.eq_nil_of_length_eq_zero (by omega)
     simp [this])
 refine av ?_
 refine K2 _ ?_
 refine yS fun _ K13 => ?_
 refine yS fun _ K14 => ?_
 refine yR ?_
 refine yA rfl rfl ?_
 refine yN ?_
 dsimp only [St.put]
 refine K14 _ ?_
 refine az ?_
 refine ce 10 ?_
 refine zQ ?_
 refine cy (G) zX ?_
 dsimp only
 refine cx (X := Nat) (fun i => i ≤ l.length ∧ dn t x l i = true) (fun i => l.length - i) (fun i => [(9, .v (.int .i64 (i : Int)))]) (fun i G' => G') 0 rfl ?_ ?_ (fun _ _ h => h) ?_ ?_ ?_
 ·exact ⟨Nat.zero_le _, rfl⟩
 ·exact zF
 ·rintro i hI
  exact zL
 ·exact fun _ _ _ _ h => .inl h
 rintro i hI
 dsimp only at hI ⊢
 refine yS fun _ K15 => ?_
 refine yS fun _ K16 => ?_
 refine yR ?_
 refine yM rfl rfl ?_
 refine yM rfl rfl ?_
 refine aa rfl (bg rfl rfl (List.length_map _)) ?_
 refine aa rfl (cb rfl rfl rfl) ?_
 refine yN ?_
 dsimp only [St.put]
 refine K16 _ ?_
 refine am rfl (fun hc => ?_) (fun hc => ?_)
 ·replace hc := of_decide_eq_true hc
  obtain ⟨q, hq⟩ : ∃ q, l[i]? = some q := c7 (by omega)
  refine av ?_
  refine K15 _ ?_
  refine yS fun _ K17 => ?_
  refine az ?_
  refine ce 10 ?_
  refine zQ ?_
  refine kj (X := Bool) (fun d => ja t x l i = !d) (fun d => [(60, .v (.bool d))]) (fun d G' => G') rfl ?_ (fun _ _ _ _ h => .inl h) ?_ ?_
  ·rintro d hI
   exact zL
  ·refine ry [(0, none), (1, none), (2, none), (3, none), (4, none)] (fun _ => false) (fun i => [1, 2, 3].contains i) 33 (rl [5, 33]) (by kernel_rfl) (by kernel_rfl) ?_
   try dsimp only [St.put]
   refine ay rfl rfl rfl rfl (ep rfl rfl rfl) ?_
   refine xM rfl rfl rfl rfl rfl ?_
   refine xM rfl rfl rfl rfl rfl ?_
   try dsimp only [St.put]
   refine ah rfl rfl rfl rfl (bp rfl rfl rfl rfl (bk (by assumption)) (Enc.len _)) ?_
   try dsimp only [St.put]
   refine ay rfl rfl rfl rfl (ep rfl rfl (Enc.len _)) ?_
   refine ci ?_
   refine dv [5] (by kernel_rfl) (by simp) ?_
   refine du ?_ ?_
   ·try dsimp only [St.put]
    refine ir rfl rfl rfl (ax rfl rfl rfl (uf4 t q ht) ?_)
    refine eh [(6, none), (7, none), (8, none), (9, none), (10, none), (11, none), (12, none), (14, none), (15, none), (16, none), (17, none)] (fun i => [6, 7, 9, 10, 11, 14, 16].contains i) 21 (rl [13, 1, 4, 20]) (by kernel_rfl) ?_
    refine ah rfl rfl rfl rfl (dl rfl rfl) ?_
    refine jr (fun hs => ?_) (fun hs => ?_)
    ·have s4 := hs
     refine xM rfl rfl rfl rfl rfl ?_
     refine aj rfl rfl rfl ?_
     refine aj rfl rfl rfl ?_
     refine aj rfl rfl rfl ?_
     refine aj rfl rfl rfl ?_
     refine aj rfl rfl rfl ?_
     refine aj rfl rfl rfl ?_
     refine aj rfl rfl rfl ?_
     refine aj rfl rfl rfl ?_
     refine aj rfl rfl rfl ?_
     refine ci ?_
     refine dv [13] (by kernel_rfl) (by simp) ?_
     refine du ?_ ?_
     ·refine fy rfl rfl rfl ?_
      refine dv [18] (by kernel_rfl) (by simp) ?_
      refine du ?_ ?_
      ·refine fy rfl rfl rfl ?_
       refine eh [(19, none), (20, none), (21, none), (22, none), (23, none), (24, none), (25, none), (26, none), (27, none), (28, none), (29, none), (30, none), (31, none), (32, none), (33, none)] (fun i => [19, 20, 21, 22, 23, 24, 25, 26, 27, 28, 30, 31, 32].contains i) 4 (rl [34, 4]) (by kernel_rfl) ?_
       refine aj rfl rfl rfl ?_
       refine ah rfl rfl rfl rfl (bw rfl rfl (by constructor)) ?_
       refine xM rfl rfl rfl rfl rfl ?_
       refine aj rfl rfl rfl ?_
       refine aj rfl rfl rfl ?_
       refine aj rfl rfl rfl ?_
       refine aj rfl rfl rfl ?_
       refine aj rfl rfl rfl ?_
       refine aj rfl rfl rfl ?_
       refine aj rfl rfl rfl ?_
       refine aj rfl rfl rfl ?_
       refine aj rfl rfl rfl ?_
       refine aj rfl rfl rfl ?_
       refine aj rfl rfl rfl ?_
       refine aj rfl rfl rfl ?_
       refine ci ?_
       refine dv [34] (by kernel_rfl) (by simp) ?_
       refine du ?_ ?_
       ·refine fy rfl rfl rfl ?_
        refine eh [(35, none), (36, none), (37, none)] (fun i => [35, 36, 37].contains i) 0 (rl [38]) (by kernel_rfl) ?_
        refine aj rfl rfl rfl ?_
        refine aj rfl rfl rfl ?_
        refine ah rfl rfl rfl rfl (bw rfl rfl (by constructor)) ?_
        refine ci ?_
        dsimp only [St.put]
        refine im (by kernel_rfl) ?_
        refine ⟨_, ?_, ⟨⟨rfl, rfl⟩, zF, zB, zN, zX⟩⟩
        simp_all [ja, gz, mj]
        try (intro h0; omega)
       exact dt
      exact dt
     exact dt
    have hqp : ff t q = true := by simpa using hs
    refine xM rfl rfl rfl rfl rfl ?_
    try dsimp only [St.put]
    refine ay rfl rfl rfl rfl (ep rfl rfl rfl) ?_
    refine xM rfl rfl rfl rfl rfl ?_
    refine xM rfl rfl rfl rfl rfl ?_
    try dsimp only [St.put]
    refine ah rfl rfl rfl rfl (bp rfl rfl rfl rfl (bk (by assumption)) (Enc.len _)) ?_
    try dsimp only [St.put]
    refine ay rfl rfl rfl rfl (ep rfl rfl (Enc.len _)) ?_
    refine ah rfl rfl rfl rfl (co rfl rfl rfl) ?_
    try dsimp only [St.put]
    refine ay rfl rfl rfl rfl (ca rfl rfl) ?_
    refine ah rfl rfl rfl rfl (co rfl rfl rfl) ?_
    try dsimp only [St.put]
    refine ay rfl rfl rfl rfl (ca rfl rfl) ?_
    refine ci ?_
    refine dv [13] (by kernel_rfl) (by simp) ?_
    refine du ?_ ?_
    ·try dsimp only [St.put]
     refine ir rfl rfl rfl (ax rfl rfl rfl (ub2 t q ht hqp) ?_)
     refine dv [18] (by kernel_rfl) (by simp) ?_
     refine du ?_ ?_
     ·try dsimp only [St.put]
      refine ir rfl rfl rfl (ax rfl rfl rfl (qz _ _ _) ?_)
      refine eh [(19, none), (20, none), (21, none), (22, none), (23, none), (24, none), (25, none), (26, none), (27, none), (28, none), (29, none), (30, none), (31, none), (32, none), (33, none)] (fun i => [19, 20, 21, 22, 23, 24, 25, 26, 27, 28, 30, 31, 32].contains i) 4 (rl [34, 4]) (by kernel_rfl) ?_
      refine ah rfl rfl rfl rfl (dl rfl rfl) ?_
      refine jr (fun hs => ?_) (fun hs => ?_)
      ·have s5 := hs
       refine ah rfl rfl rfl rfl (cm rfl rfl (by constructor)) ?_
       refine xM rfl rfl rfl rfl rfl ?_
       refine aj rfl rfl rfl ?_
       refine aj rfl rfl rfl ?_
       refine aj rfl rfl rfl ?_
       refine aj rfl rfl rfl ?_
       refine aj rfl rfl rfl ?_
       refine aj rfl rfl rfl ?_
       refine aj rfl rfl rfl ?_
       refine aj rfl rfl rfl ?_
       refine aj rfl rfl rfl ?_
       refine aj rfl rfl rfl ?_
       refine aj rfl rfl rfl ?_
       refine aj rfl rfl rfl ?_
       refine ci ?_
       refine dv [34] (by kernel_rfl) (by simp) ?_
       refine du ?_ ?_
       ·refine fy rfl rfl rfl ?_
        refine eh [(35, none), (36, none), (37, none)] (fun i => [35, 36, 37].contains i) 0 (rl [38]) (by kernel_rfl) ?_
        refine aj rfl rfl rfl ?_
        refine aj rfl rfl rfl ?_
        refine ah rfl rfl rfl rfl (bw rfl rfl (by constructor)) ?_
        refine ci ?_
        dsimp only [St.put]
        refine im (by kernel_rfl) ?_
        refine ⟨_, ?_, ⟨⟨rfl, rfl⟩, zF, zB, zN, zX⟩⟩
        simp_all [ja, gz, mj]
        try (intro h0; omega)
       exact dt
      have s5 := hs
      refine ah rfl rfl rfl rfl (cm rfl rfl (by constructor)) ?_
      refine xM rfl rfl rfl rfl rfl ?_
      refine xM rfl rfl rfl rfl rfl ?_
      refine ah rfl rfl rfl rfl (g4 rfl rfl rfl) ?_
      refine jr (fun hs => ?_) (fun hs => ?_)
      ·have s6 : 0 < i := by
        have := of_decide_eq_true hs
        omega
       obtain ⟨q0, hq0⟩ : ∃ q0, l[i - 1]? = some q0 := c7 (by omega)
       refine xM rfl rfl rfl rfl rfl ?_
       refine xM rfl rfl rfl rfl rfl ?_
       refine xM rfl rfl rfl rfl rfl ?_
       refine ah rfl rfl rfl rfl (f7 rfl rfl rfl (by omega)) ?_
       try dsimp only [St.put]
       refine ah rfl rfl rfl rfl (bp (k := i - 1) rfl rfl rfl (by omega) (bk hq0) (Enc.len _)) ?_
       try dsimp only [St.put]
       refine ay rfl rfl rfl rfl (ep rfl rfl (Enc.len _)) ?_
       refine xM rfl rfl rfl rfl rfl ?_
       refine xM rfl rfl rfl rfl rfl ?_
       try dsimp only [St.put]
       refine ah rfl rfl rfl rfl (bp rfl rfl rfl rfl (bk (by assumption)) (Enc.len _)) ?_
       try dsimp only [St.put]
       refine ay rfl rfl rfl rfl (ep rfl rfl (Enc.len _)) ?_
       refine ci ?_
       refine dv [34] (by kernel_rfl) (by simp) ?_
       refine du ?_ ?_
       ·try dsimp only [St.put]
        refine ir rfl rfl rfl (ax rfl rfl rfl (uf8 q0 q) ?_)
        refine eh [(35, none), (36, none), (37, none)] (fun i => [35, 36, 37].contains i) 0 (rl [38]) (by kernel_rfl) ?_
        refine ah rfl rfl rfl rfl (dl rfl rfl) ?_
        refine ah rfl rfl rfl rfl (bw rfl rfl (by constructor)) ?_
        refine ah rfl rfl rfl rfl (cm rfl rfl (by constructor)) ?_
        refine ci ?_
        dsimp only [St.put]
        refine im (by kernel_rfl) ?_
        refine ⟨_, ?_, ⟨⟨rfl, rfl⟩, zF, zB, zN, zX⟩⟩
        simp_all [ja, gz, mj]
        try (intro h0; omega)
       exact dt
      have s6 : i = 0 := by
       have := of_decide_eq_false hs
       omega
      refine xM rfl rfl rfl rfl rfl ?_
      refine aj rfl rfl rfl ?_
      refine aj rfl rfl rfl ?_
      refine aj rfl rfl rfl ?_
      refine aj rfl rfl rfl ?_
      refine aj rfl rfl rfl ?_
      refine aj rfl rfl rfl ?_
      refine aj rfl rfl rfl ?_
      refine aj rfl rfl rfl ?_
      refine aj rfl rfl rfl ?_
      refine ci ?_
      refine dv [34] (by kernel_rfl) (by simp) ?_
      refine du ?_ ?_
      ·refine fy rfl rfl rfl ?_
       refine eh [(35, none), (36, none), (37, none)] (fun i => [35, 36, 37].contains i) 0 (rl [38]) (by kernel_rfl) ?_
       refine aj rfl rfl rfl ?_
       refine ah rfl rfl rfl rfl (cm rfl rfl (by constructor)) ?_
       refine ah rfl rfl rfl rfl (cm rfl rfl (by constructor)) ?_
       refine ci ?_
       dsimp only [St.put]
       refine im (by kernel_rfl) ?_
       refine ⟨_, ?_, ⟨⟨rfl, rfl⟩, zF, zB, zN, zX⟩⟩
       simp_all [ja, gz, mj]
       try (intro h0; omega)
      exact dt
     exact dt
    exact dt
   exact dt
  rintro d hst
  dsimp only at hst ⊢
  refine am rfl (fun hc => ?_) (fun hc => ?_)
  ·skip
   refine yS fun _ K19 => ?_
   refine yR ?_
   refine yA rfl rfl ?_
   refine yN ?_
   dsimp only [St.put]
   refine K19 _ ?_
   refine ar ?_
   refine bc rfl (by constructor) zN zS ?_
   exact vb (by
    have e : ja t x l i = false := by rw [hst, hc]; rfl
    have : dn t x l l.length = false := by
     refine List.all_eq_false.2 ⟨i, List.mem_range.2 (by omega), by rw [e]; simp⟩
    simp [g5, this])
  skip
  refine av ?_
  refine K17 _ ?_
  refine yR ?_
  refine yM rfl rfl ?_
  refine aa rfl (bq rfl rfl rfl (by omega)) ?_
  refine yA rfl rfl ?_
  refine yN ?_
  dsimp only [St.put]
  exact ⟨i + 1, by omega, ⟨by omega, by rw [gr, hI.2, hst, hc]; rfl⟩, ⟨⟨rfl, rfl⟩, zF, zB, zN, zX⟩⟩
 replace hc := of_decide_eq_false hc
 obtain rfl : i = l.length := by omega
 refine cv ?_
 refine K13 _ ?_
 refine yS fun _ K20 => ?_
 refine yR ?_
 refine yA rfl rfl ?_
 refine yN ?_
 dsimp only [St.put]
 refine K20 _ ?_
 refine ar ?_
 refine bc rfl (by constructor) zN zS ?_
 exact vb (by
  unfold g5
  rw [hI.2, Bool.and_true]
  first
  | exact s3.symm
  | (have e1 : 0 ≤ r := by omega
     simp [e1]))
end Go.Proofs.YtbbdginipiljdaaGreatDoor
namespace Go.AB
open Go Go.RowKit
open Go.AB.Enc (cells)
open Go.PB (aw ai PlaceD ba bf bd bn aq af cj bj cz c5)
def l9 (p : af) (last : Int) (x : aq) : Bool := decide (last < x.fr) && decide (x.fr ≤ x.to) && decide (x.to < (l8 p.text : Int)) && inB x.fst (-1) ((p.firsts.length : Int) - 1) && inB x.snd (-1) ((p.seconds.length : Int) - 1)
theorem vh (p : af) (last : Int) (x : aq) : ll p last x = (l9 p last x && (g5 p.text x x.fst x.found && g5 p.text x x.snd x.well)) := by
 unfold ll l9
 cases decide (last < x.fr) <;> cases decide (x.fr ≤ x.to) <;> cases decide (x.to < (l8 p.text : Int)) <;> cases inB x.fst (-1) ((p.firsts.length : Int) - 1) <;> cases inB x.snd (-1) ((p.seconds.length : Int) - 1) <;> simp
theorem yd {p : af} {j : Nat} {x : aq} (h : p.pages[j]? = some x) : s7 p j = ll p (g8 p.pages j) x := by unfold s7; rw [h]
theorem udp {l : List aq} {j : Nat} {x : aq} (h : l[j]? = some x) : g8 l (j + 1) = x.to := by simp only [g8, h]
theorem vg {p : af} {j : Nat} {x : aq} (h : p.pages[j]? = some x) (hb : ll p (g8 p.pages j) x = false) : fw p = false := by
 have : py p p.pages.length = false := List.all_eq_false.2 ⟨j, List.mem_range.2 (List.getElem?_eq_some_iff.1 h).1, by rw [yd h, hb]; simp⟩
 simp [fw, this]
end Go.AB
namespace Go.Proofs.YtbbdginipiljdaaGreatDoor
set_option maxRecDepth 10000
open Go.RowKit Go.AB
open Go.AB.Enc (cells)
open Go.PB (aw ai PlaceD ba bf bd bn aq af cj bj cz c5)
set_option maxHeartbeats 2000000 in
theorem ui6 (p : af) (ht : dp p.text = true) : Pure Tryz.prog 87 [val p] (.v (.bool (fw p))) := by
 refine ct Tryz.func87 rfl (fun m => .v) fun G nx => ?_
 simp only [Tryz.ntmps87, List.length_cons, List.length_nil, Nat.reduceAdd, Nat.reduceSub]
 refine bu fun hlt => ?_
 dsimp only at hlt
 refine yS fun _ K1 => ?_
 refine yR ?_
 try dsimp only [St.put]
 refine yB rfl rfl rfl ?_
 refine yA rfl rfl ?_
 refine yN ?_
 dsimp only [St.put]
 refine K1 _ ?_
 refine yS fun _ K2 => ?_
 refine yS fun _ K3 => ?_
 refine yR ?_
 refine yF rfl rfl rfl rfl ?_
 refine yL rfl rfl rfl ?_
 refine aa rfl (bg rfl rfl (List.length_map _)) ?_
 refine aa rfl (g4 rfl rfl rfl) ?_
 refine em (fun hs => ?_) (fun hs => ?_)
 ·have s1 : ¬ p.firsts.length ≤ 3 := by
   have := of_decide_eq_true hs
   omega
  refine yM rfl rfl ?_
  refine yK rfl ?_
  refine yK rfl ?_
  refine yK rfl ?_
  refine yK rfl ?_
  refine aa rfl (bw rfl rfl (by constructor)) ?_
  refine yM rfl rfl ?_
  refine yK rfl ?_
  refine yK rfl ?_
  refine yK rfl ?_
  refine yK rfl ?_
  refine aa rfl (bw rfl rfl (by constructor)) ?_
  refine yN ?_
  dsimp only [St.put]
  refine K3 _ ?_
  refine am rfl (fun _ => ?_) (fun h => by cases h)
  refine yS fun _ K4 => ?_
  refine yR ?_
  refine yA rfl rfl ?_
  refine yN ?_
  dsimp only [St.put]
  refine K4 _ ?_
  refine ar ?_
  refine bc rfl (by constructor) zN zS ?_
  exact vb (by first | (simp [fw, jk, s1]; done) | (simp [fw, jk, s2]; done) | (simp [fw, s3]; done))
 have s1 : p.firsts.length ≤ 3 := by
  have := of_decide_eq_false hs
  omega
 refine yM rfl rfl ?_
 refine yF rfl rfl rfl rfl ?_
 refine yL rfl rfl rfl ?_
 refine aa rfl (bg rfl rfl (List.length_map _)) ?_
 refine aa rfl (g4 rfl rfl rfl) ?_
 refine em (fun hs => ?_) (fun hs => ?_)
 ·have s2 : ¬ p.seconds.length ≤ 3 := by
   have := of_decide_eq_true hs
   omega
  refine aa rfl (cm rfl rfl (by constructor)) ?_
  refine yM rfl rfl ?_
  refine yK rfl ?_
  refine yK rfl ?_
  refine yK rfl ?_
  refine yK rfl ?_
  refine aa rfl (bw rfl rfl (by constructor)) ?_
  refine yN ?_
  dsimp only [St.put]
  refine K3 _ ?_
  refine am rfl (fun _ => ?_) (fun h => by cases h)
  refine yS fun _ K5 => ?_
  refine yR ?_
  refine yA rfl rfl ?_
  refine yN ?_
  dsimp only [St.put]
  refine K5 _ ?_
  refine ar ?_
  refine bc rfl (by constructor) zN zS ?_
  exact vb (by first | (simp [fw, jk, s1]; done) | (simp [fw, jk, s2]; done) | (simp [fw, s3]; done))
 have s2 : p.seconds.length ≤ 3 := by
  have := of_decide_eq_false hs
  omega
 refine aa rfl (cm rfl rfl (by constructor)) ?_
 refine yM rfl rfl ?_
 refine yF rfl rfl rfl rfl ?_
 refine yL rfl rfl rfl ?_
 refine aa rfl (bg rfl rfl (List.length_map _)) ?_
 refine aa rfl (g4 rfl rfl rfl) ?_
 refine em (fun hs => ?_) (fun hs => ?_)
 ·have s3 : ¬ p.pages.length ≤ 8 := by
   have := of_decide_eq_true hs
   omega
  refine aa rfl (cm rfl rfl (by constructor)) ?_
  refine yN ?_
  dsimp only [St.put]
  refine K3 _ ?_
  refine am rfl (fun _ => ?_) (fun h => by cases h)
  refine yS fun _ K6 => ?_
  refine yR ?_
  refine yA rfl rfl ?_
  refine yN ?_
  dsimp only [St.put]
  refine K6 _ ?_
  refine ar ?_
  refine bc rfl (by constructor) zN zS ?_
  exact vb (by first | (simp [fw, jk, s1]; done) | (simp [fw, jk, s2]; done) | (simp [fw, s3]; done))
 have s3 : p.pages.length ≤ 8 := by
  have := of_decide_eq_false hs
  omega
 obtain ⟨A, hA⟩ : ∃ A, p.firsts ++ p.seconds = A := ⟨_, rfl⟩
 have hAl : A.length ≤ 6 := by rw [← hA, List.length_append]; omega
 refine aa rfl (cm rfl rfl (by constructor)) ?_
 refine yN ?_
 dsimp only [St.put]
 refine K3 _ ?_
 refine am rfl (fun h => by cases h) (fun _ => ?_)
 refine av ?_
 refine K2 _ ?_
 refine yS fun _ K7 => ?_
 refine yR ?_
 refine yA rfl rfl ?_
 refine yN ?_
 dsimp only [St.put]
 refine K7 _ ?_
 refine ufs 3 67 2 rfl (by decide) ?_
 refine yS fun _ K8 => ?_
 refine gu [(0, none), (1, none), (2, none), (4, none), (5, none), (3, none), (6, none), (7, none)] (fun i => [6].contains i) (fun i => [3, 6].contains i) (fun i => [0, 1, 4, 7].contains i) [] (by kernel_rfl) (by kernel_rfl) ?_
 refine xM rfl rfl rfl rfl rfl ?_
 refine ah rfl rfl rfl rfl (co rfl rfl rfl) ?_
 try dsimp only [St.put]
 refine ay rfl rfl rfl rfl (ca rfl rfl) ?_
 refine ah rfl rfl rfl rfl (co rfl rfl rfl) ?_
 try dsimp only [St.put]
 refine ay rfl rfl rfl rfl (ca rfl rfl) ?_
 refine jg ?_
 try dsimp only [St.put]
 refine jz rfl rfl rfl (ww (xs := ([] : List bn)) p.firsts rfl rfl zG rfl rfl rfl rfl zA zA (fun v1 => ⟨zD, ?_⟩))
 try dsimp only [St.put]
 refine jz rfl rfl rfl (ww (xs := ([] : List bn) ++ p.firsts) p.seconds rfl rfl zG rfl rfl rfl rfl zA zA (fun v2 => ⟨zD, ?_⟩))
 refine ef rfl rfl rfl rfl (fh rfl (by constructor)) ?_
 refine jf ?_
 dsimp only [St.put]
 refine K8 _ ?_
 refine uae 3 (([] : List bn) ++ p.firsts ++ p.seconds) rfl zG rfl rfl rfl ?_
 refine cy G zX ?_
 dsimp only
 rw [show ([] : List bn) ++ p.firsts ++ p.seconds = A from hA]
 refine yS fun _ K9 => ?_
 refine yS fun _ K10 => ?_
 refine yR ?_
 refine yA rfl rfl ?_
 refine yN ?_
 dsimp only [St.put]
 refine K10 _ ?_
 refine az ?_
 refine ce 9 ?_
 refine zQ ?_
 refine cy (G) zX ?_
 dsimp only
 refine cx (X := Nat) (fun i => i ≤ A.length ∧ (A.take i).all ge = true ∧ ((A.take i).map (·.id)).Nodup) (fun i => A.length - i) (fun i => [(4, .v (.int .i64 (i : Int))), (5, .any)]) (fun i G' => G') 0 rfl ?_ ?_ (fun _ _ h => h) ?_ ?_ ?_
 ·exact ⟨Nat.zero_le _, rfl, by simp⟩
 ·exact zF
 ·rintro i hI
  exact zL
 ·exact fun _ _ _ _ h => .inl h
 rintro i hI
 dsimp only at hI ⊢
 refine yS fun _ K11 => ?_
 refine yS fun _ K12 => ?_
 refine yR ?_
 refine yM rfl rfl ?_
 refine yM rfl rfl ?_
 refine aa rfl (bg rfl rfl (List.length_map _)) ?_
 refine aa rfl (cb rfl rfl rfl) ?_
 refine yN ?_
 dsimp only [St.put]
 refine K12 _ ?_
 refine am rfl (fun hc => ?_) (fun hc => ?_)
 ·replace hc := of_decide_eq_true hc
  obtain ⟨r, hr⟩ : ∃ r, A[i]? = some r := c7 (by omega)
  refine av ?_
  refine K11 _ ?_
  refine yS fun _ K13 => ?_
  refine az ?_
  refine yS fun _ K14 => ?_
  refine yS fun _ K15 => ?_
  refine yR ?_
  refine yM rfl rfl ?_
  refine yM rfl rfl ?_
  refine aa rfl (bp rfl rfl rfl rfl (bk (by assumption)) (Enc.len _)) ?_
  refine yF rfl rfl rfl rfl ?_
  refine yL rfl rfl rfl ?_
  try dsimp only [St.put]
  refine ae rfl (ax rfl rfl rfl (qz _ _ _) ?_)
  refine aa rfl (dl rfl rfl) ?_
  refine em (fun hs => ?_) (fun hs => ?_)
  ·have q1 : inB r.id 0 9999 = false := by simpa using hs
   refine yM rfl rfl ?_
   refine yK rfl ?_
   refine yK rfl ?_
   refine yK rfl ?_
   refine yK rfl ?_
   refine yK rfl ?_
   refine yK rfl ?_
   refine yK rfl ?_
   refine aa rfl (bw rfl rfl (by constructor)) ?_
   refine yN ?_
   dsimp only [St.put]
   refine K15 _ ?_
   refine am rfl (fun _ => ?_) (fun h => by cases h)
   refine yS fun _ K16 => ?_
   refine yR ?_
   refine yA rfl rfl ?_
   refine yN ?_
   dsimp only [St.put]
   refine K16 _ ?_
   refine ar ?_
   refine bc rfl (by constructor) zN zS ?_
   exact vb (by
    have hb : ge r = false := by first | (simp [ge, q1]; done) | (simp [ge, q2]; done)
    have : A.all ge = false := j6 hr hb
    rw [← hA] at this
    simp only [fw, jk, this, Bool.and_false, Bool.false_and])
  have q1 : inB r.id 0 9999 = true := by simpa using hs
  refine yM rfl rfl ?_
  refine yM rfl rfl ?_
  refine yM rfl rfl ?_
  refine aa rfl (bp rfl rfl rfl rfl (bk (by assumption)) (Enc.len _)) ?_
  refine yF rfl rfl rfl rfl ?_
  refine yL rfl rfl rfl ?_
  try dsimp only [St.put]
  refine ae rfl (ax rfl rfl rfl (qz _ _ _) ?_)
  refine aa rfl (dl rfl rfl) ?_
  refine em (fun hs => ?_) (fun hs => ?_)
  ·have q2 : inB r.miss 0 90 = false := by simpa using hs
   refine aa rfl (cm rfl rfl (by constructor)) ?_
   refine yN ?_
   dsimp only [St.put]
   refine K15 _ ?_
   refine am rfl (fun _ => ?_) (fun h => by cases h)
   refine yS fun _ K17 => ?_
   refine yR ?_
   refine yA rfl rfl ?_
   refine yN ?_
   dsimp only [St.put]
   refine K17 _ ?_
   refine ar ?_
   refine bc rfl (by constructor) zN zS ?_
   exact vb (by
    have hb : ge r = false := by first | (simp [ge, q1]; done) | (simp [ge, q2]; done)
    have : A.all ge = false := j6 hr hb
    rw [← hA] at this
    simp only [fw, jk, this, Bool.and_false, Bool.false_and])
  have q2 : inB r.miss 0 90 = true := by simpa using hs
  have hrb : ge r = true := by simp [ge, q1, q2]
  refine aa rfl (cm rfl rfl (by constructor)) ?_
  refine yN ?_
  dsimp only [St.put]
  refine K15 _ ?_
  refine am rfl (fun h => by cases h) (fun _ => ?_)
  refine av ?_
  refine K14 _ ?_
  refine yS fun _ K18 => ?_
  refine yR ?_
  refine yA rfl rfl ?_
  refine yN ?_
  dsimp only [St.put]
  refine K18 _ ?_
  refine az ?_
  refine ce 9 ?_
  refine zQ ?_
  refine cy (G) zX ?_
  dsimp only
  refine cx (X := Nat) (fun k => k ≤ i ∧ ∀ y ∈ A.take k, y.id ≠ r.id) (fun k => i - k) (fun k => [(5, .v (.int .i64 (k : Int)))]) (fun k G' => G') 0 rfl ?_ ?_ (fun _ _ h => h) ?_ ?_ ?_
  ·exact ⟨Nat.zero_le _, by simp⟩
  ·exact zF
  ·rintro k hI
   exact zL
  ·exact fun _ _ _ _ h => .inl h
  rintro k hJ
  dsimp only at hJ ⊢
  refine yS fun _ K19 => ?_
  refine yS fun _ K20 => ?_
  refine yR ?_
  refine yM rfl rfl ?_
  refine yM rfl rfl ?_
  refine aa rfl (cb rfl rfl rfl) ?_
  refine yN ?_
  dsimp only [St.put]
  refine K20 _ ?_
  refine am rfl (fun hc => ?_) (fun hc => ?_)
  ·replace hc := of_decide_eq_true hc
   obtain ⟨y, hy⟩ : ∃ y, A[k]? = some y := c7 (by omega)
   refine av ?_
   refine K19 _ ?_
   refine yS fun _ K21 => ?_
   refine az ?_
   refine yS fun _ K22 => ?_
   refine gu [(0, none), (1, none), (2, none), (3, none), (4, none), (5, none), (6, none), (7, none), (8, none), (9, none), (10, none)] (fun i => [].contains i) (fun i => [].contains i) (fun i => [0, 1, 2, 3, 5, 6, 7, 8, 10].contains i) [] (by kernel_rfl) (by kernel_rfl) ?_
   refine xM rfl rfl rfl rfl rfl ?_
   refine xM rfl rfl rfl rfl rfl ?_
   try dsimp only [St.put]
   refine ah rfl rfl rfl rfl (bp rfl rfl rfl rfl (bk (by assumption)) (Enc.len _)) ?_
   refine ah rfl rfl rfl rfl (co rfl rfl rfl) ?_
   try dsimp only [St.put]
   refine ay rfl rfl rfl rfl (ca rfl rfl) ?_
   refine xM rfl rfl rfl rfl rfl ?_
   refine xM rfl rfl rfl rfl rfl ?_
   try dsimp only [St.put]
   refine ah rfl rfl rfl rfl (bp rfl rfl rfl rfl (bk (by assumption)) (Enc.len _)) ?_
   refine ah rfl rfl rfl rfl (co rfl rfl rfl) ?_
   try dsimp only [St.put]
   refine ay rfl rfl rfl rfl (ca rfl rfl) ?_
   refine ah rfl rfl rfl rfl (fg rfl rfl rfl) ?_
   refine ci ?_
   dsimp only [St.put]
   refine K22 _ ?_
   refine am rfl (fun hc => ?_) (fun hc => ?_)
   ·have hyr : y.id = r.id := of_decide_eq_true hc
    refine yS fun _ K23 => ?_
    refine yR ?_
    refine yA rfl rfl ?_
    refine yN ?_
    dsimp only [St.put]
    refine K23 _ ?_
    refine ar ?_
    refine bc rfl (by constructor) zN zS ?_
    exact vb (by
     have : ¬ (A.map (·.id)).Nodup := yp hy hr (by omega) hyr
     rw [← hA] at this
     simp only [fw, jk, decide_eq_false this, Bool.and_false, Bool.false_and])
   have hne : y.id ≠ r.id := of_decide_eq_false hc
   refine av ?_
   refine K21 _ ?_
   refine yR ?_
   refine yM rfl rfl ?_
   refine aa rfl (bq rfl rfl rfl (by omega)) ?_
   refine yA rfl rfl ?_
   refine yN ?_
   dsimp only [St.put]
   exact ⟨k + 1, by omega, ⟨by omega, uda (p := fun y : bn => y.id ≠ r.id) hy hne hJ.2⟩, ⟨⟨rfl, rfl⟩, zF, zB, zN, zX⟩⟩
  replace hc := of_decide_eq_false hc
  have hki : k = i := by omega
  rw [hki] at hJ
  have hnd : r.id ∉ (A.take i).map (·.id) := fun hm => by
   obtain ⟨y, hy1, hy2⟩ := List.mem_map.1 hm
   exact hJ.2 y hy1 hy2
  refine cv ?_
  refine K13 _ ?_
  refine yR ?_
  refine yM rfl rfl ?_
  refine aa rfl (bq rfl rfl rfl (by omega)) ?_
  refine yA rfl rfl ?_
  refine yN ?_
  dsimp only [St.put]
  exact ⟨i + 1, by omega, ⟨by omega, by rw [qo hr, hI.2.1, hrb]; rfl, by rw [o9 hr]; exact yq hI.2.2 hnd⟩, ⟨⟨rfl, rfl⟩, zF, zB, zN, zX⟩⟩
 replace hc := of_decide_eq_false hc
 have hRB : jk p = true := by
  have h1 := hI.2.1
  have h2 := hI.2.2
  rw [fu (show A.length ≤ i by omega), ← hA] at h1 h2
  unfold jk
  rw [h1, decide_eq_true h2, decide_eq_true s1, decide_eq_true s2]; rfl
 refine cv ?_
 refine K9 _ ?_
 refine yS fun _ K24 => ?_
 refine yR ?_
 refine yA rfl rfl ?_
 refine yN ?_
 dsimp only [St.put]
 refine K24 _ ?_
 refine yS fun _ K25 => ?_
 refine yS fun _ K26 => ?_
 refine yR ?_
 refine yA rfl rfl ?_
 refine yN ?_
 dsimp only [St.put]
 refine K26 _ ?_
 refine az ?_
 refine ce 9 ?_
 refine zQ ?_
 refine cy (G) zX ?_
 dsimp only
 refine cx (X := Nat) (fun j => j ≤ p.pages.length ∧ py p j = true) (fun j => p.pages.length - j) (fun j => [(6, .v (.int .i64 (g8 p.pages j))), (7, .v (.int .i64 (j : Int))), (8, .any)]) (fun j G' => G') 0 rfl ?_ ?_ (fun _ _ h => h) ?_ ?_ ?_
 ·exact ⟨Nat.zero_le _, rfl⟩
 ·exact zF
 ·rintro j hI
  exact zL
 ·exact fun _ _ _ _ h => .inl h
 rintro j hK
 dsimp only at hK ⊢
 refine yS fun _ K27 => ?_
 refine yS fun _ K28 => ?_
 refine yR ?_
 refine yM rfl rfl ?_
 refine yF rfl rfl rfl rfl ?_
 refine yL rfl rfl rfl ?_
 refine aa rfl (bg rfl rfl (List.length_map _)) ?_
 refine aa rfl (cb rfl rfl rfl) ?_
 refine yN ?_
 dsimp only [St.put]
 refine K28 _ ?_
 refine am rfl (fun hc => ?_) (fun hc => ?_)
 ·replace hc := of_decide_eq_true hc
  obtain ⟨x, hx⟩ : ∃ x, p.pages[j]? = some x := c7 (by omega)
  refine av ?_
  refine K27 _ ?_
  refine yS fun _ K29 => ?_
  refine az ?_
  refine yS fun _ K30 => ?_
  refine yR ?_
  refine yF rfl rfl rfl rfl ?_
  refine yL rfl rfl rfl ?_
  refine yM rfl rfl ?_
  refine aa rfl (bp rfl rfl rfl rfl (bk (by assumption)) (Enc.len _)) ?_
  refine yE rfl rfl rfl ?_
  try dsimp only [St.put]
  refine ae rfl (dr rfl ?_)
  try dsimp only [St.put]
  refine ae rfl (c6 rfl rfl rfl zG rfl rfl (by rfl) ?_)
  refine yN ?_
  dsimp only [St.put]
  refine K30 _ ?_
  refine gh (i := 8) rfl zG zC ?_
  dsimp only
  refine yS fun _ K31 => ?_
  refine ce 9 ?_
  refine zQ ?_
  refine kj (X := Bool) (fun d => l9 p (g8 p.pages j) x = !d) (fun d => [(120, .v (.bool d))]) (fun d G' => G') rfl ?_ (fun _ _ _ _ h => .inl h) ?_ ?_
  ·rintro d hI
   exact zL
  ·refine ry [(0, none), (1, none), (2, none), (3, none), (4, none), (5, none), (6, none), (7, none), (8, none), (9, none), (10, none), (11, none), (12, none), (13, none), (14, none), (15, none)] (fun _ => false) (fun i => [0, 2, 3, 4, 5, 7, 9, 10, 11, 12, 14].contains i) 23 (rl [16, 23]) (by kernel_rfl) (by kernel_rfl) ?_
   refine ah rfl rfl rfl rfl (co rfl rfl rfl) ?_
   try dsimp only [St.put]
   refine ay rfl rfl rfl rfl (ca rfl rfl) ?_
   refine xM rfl rfl rfl rfl rfl ?_
   refine ah rfl rfl rfl rfl (o8 rfl rfl rfl) ?_
   refine jr (fun hs => ?_) (fun hs => ?_)
   ·have z1 : x.fr ≤ g8 p.pages j := of_decide_eq_true hs
    refine xM rfl rfl rfl rfl rfl ?_
    refine aj rfl rfl rfl ?_
    refine aj rfl rfl rfl ?_
    refine aj rfl rfl rfl ?_
    refine aj rfl rfl rfl ?_
    refine aj rfl rfl rfl ?_
    refine ah rfl rfl rfl rfl (bw rfl rfl (by constructor)) ?_
    refine xM rfl rfl rfl rfl rfl ?_
    refine aj rfl rfl rfl ?_
    refine aj rfl rfl rfl ?_
    refine aj rfl rfl rfl ?_
    refine aj rfl rfl rfl ?_
    refine ci ?_
    refine dv [16] (by kernel_rfl) (by simp) ?_
    refine du ?_ ?_
    ·refine fy rfl rfl rfl ?_
     refine eh [(17, none), (18, none), (19, none), (20, none), (21, none), (22, none), (23, none), (24, none), (25, none)] (fun i => [17, 18, 19, 20, 22, 24, 25].contains i) 13 (rl [26, 13]) (by kernel_rfl) ?_
     refine aj rfl rfl rfl ?_
     refine ah rfl rfl rfl rfl (bw rfl rfl (by constructor)) ?_
     refine xM rfl rfl rfl rfl rfl ?_
     refine aj rfl rfl rfl ?_
     refine aj rfl rfl rfl ?_
     refine aj rfl rfl rfl ?_
     refine aj rfl rfl rfl ?_
     refine aj rfl rfl rfl ?_
     refine aj rfl rfl rfl ?_
     refine ci ?_
     refine dv [26] (by kernel_rfl) (by simp) ?_
     refine du ?_ ?_
     ·refine fy rfl rfl rfl ?_
      refine eh [(27, none), (28, none), (29, none), (30, none), (31, none), (32, none), (33, none), (34, none), (35, none)] (fun i => [27, 28, 29, 30, 32, 34, 35].contains i) 3 (rl [36, 3]) (by kernel_rfl) ?_
      refine aj rfl rfl rfl ?_
      refine ah rfl rfl rfl rfl (bw rfl rfl (by constructor)) ?_
      refine xM rfl rfl rfl rfl rfl ?_
      refine aj rfl rfl rfl ?_
      refine aj rfl rfl rfl ?_
      refine aj rfl rfl rfl ?_
      refine aj rfl rfl rfl ?_
      refine aj rfl rfl rfl ?_
      refine aj rfl rfl rfl ?_
      refine ci ?_
      refine dv [36] (by kernel_rfl) (by simp) ?_
      refine du ?_ ?_
      ·refine fy rfl rfl rfl ?_
       refine eh [(37, none), (38, none)] (fun i => [37, 38].contains i) 0 (rl [39]) (by kernel_rfl) ?_
       refine aj rfl rfl rfl ?_
       refine ah rfl rfl rfl rfl (bw rfl rfl (by constructor)) ?_
       refine ci ?_
       dsimp only [St.put]
       refine im (by kernel_rfl) ?_
       refine ⟨_, ?_, ⟨⟨rfl, rfl⟩, zF, zB, zN, zX⟩⟩
       simp_all [l9]
       try (intro h0; omega)
      exact dt
     exact dt
    exact dt
   have z1 : ¬ x.fr ≤ g8 p.pages j := of_decide_eq_false hs
   refine xM rfl rfl rfl rfl rfl ?_
   refine ah rfl rfl rfl rfl (co rfl rfl rfl) ?_
   try dsimp only [St.put]
   refine ay rfl rfl rfl rfl (ca rfl rfl) ?_
   refine ah rfl rfl rfl rfl (co rfl rfl rfl) ?_
   try dsimp only [St.put]
   refine ay rfl rfl rfl rfl (ca rfl rfl) ?_
   refine ah rfl rfl rfl rfl (cb rfl rfl rfl) ?_
   refine jr (fun hs => ?_) (fun hs => ?_)
   ·have z2 : x.to < x.fr := of_decide_eq_true hs
    refine ah rfl rfl rfl rfl (cm rfl rfl (by constructor)) ?_
    refine xM rfl rfl rfl rfl rfl ?_
    refine aj rfl rfl rfl ?_
    refine aj rfl rfl rfl ?_
    refine aj rfl rfl rfl ?_
    refine aj rfl rfl rfl ?_
    refine ci ?_
    refine dv [16] (by kernel_rfl) (by simp) ?_
    refine du ?_ ?_
    ·refine fy rfl rfl rfl ?_
     refine eh [(17, none), (18, none), (19, none), (20, none), (21, none), (22, none), (23, none), (24, none), (25, none)] (fun i => [17, 18, 19, 20, 22, 24, 25].contains i) 13 (rl [26, 13]) (by kernel_rfl) ?_
     refine aj rfl rfl rfl ?_
     refine ah rfl rfl rfl rfl (bw rfl rfl (by constructor)) ?_
     refine xM rfl rfl rfl rfl rfl ?_
     refine aj rfl rfl rfl ?_
     refine aj rfl rfl rfl ?_
     refine aj rfl rfl rfl ?_
     refine aj rfl rfl rfl ?_
     refine aj rfl rfl rfl ?_
     refine aj rfl rfl rfl ?_
     refine ci ?_
     refine dv [26] (by kernel_rfl) (by simp) ?_
     refine du ?_ ?_
     ·refine fy rfl rfl rfl ?_
      refine eh [(27, none), (28, none), (29, none), (30, none), (31, none), (32, none), (33, none), (34, none), (35, none)] (fun i => [27, 28, 29, 30, 32, 34, 35].contains i) 3 (rl [36, 3]) (by kernel_rfl) ?_
      refine aj rfl rfl rfl ?_
      refine ah rfl rfl rfl rfl (bw rfl rfl (by constructor)) ?_
      refine xM rfl rfl rfl rfl rfl ?_
      refine aj rfl rfl rfl ?_
      refine aj rfl rfl rfl ?_
      refine aj rfl rfl rfl ?_
      refine aj rfl rfl rfl ?_
      refine aj rfl rfl rfl ?_
      refine aj rfl rfl rfl ?_
      refine ci ?_
      refine dv [36] (by kernel_rfl) (by simp) ?_
      refine du ?_ ?_
      ·refine fy rfl rfl rfl ?_
       refine eh [(37, none), (38, none)] (fun i => [37, 38].contains i) 0 (rl [39]) (by kernel_rfl) ?_
       refine aj rfl rfl rfl ?_
       refine ah rfl rfl rfl rfl (bw rfl rfl (by constructor)) ?_
       refine ci ?_
       dsimp only [St.put]
       refine im (by kernel_rfl) ?_
       refine ⟨_, ?_, ⟨⟨rfl, rfl⟩, zF, zB, zN, zX⟩⟩
       simp_all [l9]
       try (intro h0; omega)
      exact dt
     exact dt
    exact dt
   have z2 : ¬ x.to < x.fr := of_decide_eq_false hs
   refine ah rfl rfl rfl rfl (cm rfl rfl (by constructor)) ?_
   refine xM rfl rfl rfl rfl rfl ?_
   refine ah rfl rfl rfl rfl (co rfl rfl rfl) ?_
   try dsimp only [St.put]
   refine ay rfl rfl rfl rfl (ca rfl rfl) ?_
   refine ah rfl rfl rfl rfl (co rfl rfl rfl) ?_
   try dsimp only [St.put]
   refine ay rfl rfl rfl rfl (c := i1 p.text) (ju (cs := cells p) rfl rfl (show 1 ≤ 4 by decide)) ?_
   refine ci ?_
   refine dv [16] (by kernel_rfl) (by simp) ?_
   refine du ?_ ?_
   ·try dsimp only [St.put]
    refine ir rfl rfl rfl (ax rfl rfl rfl (ui5 p.text ht) ?_)
    refine eh [(17, none), (18, none), (19, none), (20, none), (21, none), (22, none), (23, none), (24, none), (25, none)] (fun i => [17, 18, 19, 20, 22, 24, 25].contains i) 13 (rl [26, 13]) (by kernel_rfl) ?_
    refine ah rfl rfl rfl rfl (kz rfl rfl rfl) ?_
    refine jr (fun hs => ?_) (fun hs => ?_)
    ·have z3 : (l8 p.text : Int) ≤ x.to := of_decide_eq_true hs
     refine ah rfl rfl rfl rfl (cm rfl rfl (by constructor)) ?_
     refine xM rfl rfl rfl rfl rfl ?_
     refine aj rfl rfl rfl ?_
     refine aj rfl rfl rfl ?_
     refine aj rfl rfl rfl ?_
     refine aj rfl rfl rfl ?_
     refine aj rfl rfl rfl ?_
     refine aj rfl rfl rfl ?_
     refine ci ?_
     refine dv [26] (by kernel_rfl) (by simp) ?_
     refine du ?_ ?_
     ·refine fy rfl rfl rfl ?_
      refine eh [(27, none), (28, none), (29, none), (30, none), (31, none), (32, none), (33, none), (34, none), (35, none)] (fun i => [27, 28, 29, 30, 32, 34, 35].contains i) 3 (rl [36, 3]) (by kernel_rfl) ?_
      refine aj rfl rfl rfl ?_
      refine ah rfl rfl rfl rfl (bw rfl rfl (by constructor)) ?_
      refine xM rfl rfl rfl rfl rfl ?_
      refine aj rfl rfl rfl ?_
      refine aj rfl rfl rfl ?_
      refine aj rfl rfl rfl ?_
      refine aj rfl rfl rfl ?_
      refine aj rfl rfl rfl ?_
      refine aj rfl rfl rfl ?_
      refine ci ?_
      refine dv [36] (by kernel_rfl) (by simp) ?_
      refine du ?_ ?_
      ·refine fy rfl rfl rfl ?_
       refine eh [(37, none), (38, none)] (fun i => [37, 38].contains i) 0 (rl [39]) (by kernel_rfl) ?_
       refine aj rfl rfl rfl ?_
       refine ah rfl rfl rfl rfl (bw rfl rfl (by constructor)) ?_
       refine ci ?_
       dsimp only [St.put]
       refine im (by kernel_rfl) ?_
       refine ⟨_, ?_, ⟨⟨rfl, rfl⟩, zF, zB, zN, zX⟩⟩
       simp_all [l9]
       try (intro h0; omega)
      exact dt
     exact dt
    have z3 : ¬ (l8 p.text : Int) ≤ x.to := of_decide_eq_false hs
    refine ah rfl rfl rfl rfl (cm rfl rfl (by constructor)) ?_
    refine xM rfl rfl rfl rfl rfl ?_
    refine ah rfl rfl rfl rfl (co rfl rfl rfl) ?_
    try dsimp only [St.put]
    refine ay rfl rfl rfl rfl (ca rfl rfl) ?_
    refine ah rfl rfl rfl rfl (co rfl rfl rfl) ?_
    try dsimp only [St.put]
    refine ay rfl rfl rfl rfl (ca rfl rfl) ?_
    refine ah rfl rfl rfl rfl (bg rfl rfl (List.length_map _)) ?_
    refine ah rfl rfl rfl rfl (f7 rfl rfl rfl (by omega)) ?_
    refine ci ?_
    refine dv [26] (by kernel_rfl) (by simp) ?_
    refine du ?_ ?_
    ·try dsimp only [St.put]
     refine ir rfl rfl rfl (ax rfl rfl rfl (qz _ _ _) ?_)
     refine eh [(27, none), (28, none), (29, none), (30, none), (31, none), (32, none), (33, none), (34, none), (35, none)] (fun i => [27, 28, 29, 30, 32, 34, 35].contains i) 3 (rl [36, 3]) (by kernel_rfl) ?_
     refine ah rfl rfl rfl rfl (dl rfl rfl) ?_
     refine jr (fun hs => ?_) (fun hs => ?_)
     ·have z4 : inB x.fst (-1) ((p.firsts.length : Int) - 1) = false := by simpa using hs
      refine ah rfl rfl rfl rfl (cm rfl rfl (by constructor)) ?_
      refine xM rfl rfl rfl rfl rfl ?_
      refine aj rfl rfl rfl ?_
      refine aj rfl rfl rfl ?_
      refine aj rfl rfl rfl ?_
      refine aj rfl rfl rfl ?_
      refine aj rfl rfl rfl ?_
      refine aj rfl rfl rfl ?_
      refine ci ?_
      refine dv [36] (by kernel_rfl) (by simp) ?_
      refine du ?_ ?_
      ·refine fy rfl rfl rfl ?_
       refine eh [(37, none), (38, none)] (fun i => [37, 38].contains i) 0 (rl [39]) (by kernel_rfl) ?_
       refine aj rfl rfl rfl ?_
       refine ah rfl rfl rfl rfl (bw rfl rfl (by constructor)) ?_
       refine ci ?_
       dsimp only [St.put]
       refine im (by kernel_rfl) ?_
       refine ⟨_, ?_, ⟨⟨rfl, rfl⟩, zF, zB, zN, zX⟩⟩
       simp_all [l9]
       try (intro h0; omega)
      exact dt
     have z4 : inB x.fst (-1) ((p.firsts.length : Int) - 1) = true := by simpa using hs
     refine ah rfl rfl rfl rfl (cm rfl rfl (by constructor)) ?_
     refine xM rfl rfl rfl rfl rfl ?_
     refine ah rfl rfl rfl rfl (co rfl rfl rfl) ?_
     try dsimp only [St.put]
     refine ay rfl rfl rfl rfl (ca rfl rfl) ?_
     refine ah rfl rfl rfl rfl (co rfl rfl rfl) ?_
     try dsimp only [St.put]
     refine ay rfl rfl rfl rfl (ca rfl rfl) ?_
     refine ah rfl rfl rfl rfl (bg rfl rfl (List.length_map _)) ?_
     refine ah rfl rfl rfl rfl (f7 rfl rfl rfl (by omega)) ?_
     refine ci ?_
     refine dv [36] (by kernel_rfl) (by simp) ?_
     refine du ?_ ?_
     ·try dsimp only [St.put]
      refine ir rfl rfl rfl (ax rfl rfl rfl (qz _ _ _) ?_)
      refine eh [(37, none), (38, none)] (fun i => [37, 38].contains i) 0 (rl [39]) (by kernel_rfl) ?_
      refine ah rfl rfl rfl rfl (dl rfl rfl) ?_
      refine jr (fun hs => ?_) (fun hs => ?_)
      ·have z5 : inB x.snd (-1) ((p.seconds.length : Int) - 1) = false := by simpa using hs
       refine ah rfl rfl rfl rfl (cm rfl rfl (by constructor)) ?_
       refine ci ?_
       dsimp only [St.put]
       refine im (by kernel_rfl) ?_
       refine ⟨_, ?_, ⟨⟨rfl, rfl⟩, zF, zB, zN, zX⟩⟩
       simp_all [l9]
       try (intro h0; omega)
      have z5 : inB x.snd (-1) ((p.seconds.length : Int) - 1) = true := by simpa using hs
      refine ah rfl rfl rfl rfl (cm rfl rfl (by constructor)) ?_
      refine ci ?_
      dsimp only [St.put]
      refine im (by kernel_rfl) ?_
      refine ⟨_, ?_, ⟨⟨rfl, rfl⟩, zF, zB, zN, zX⟩⟩
      simp_all [l9]
      try (intro h0; omega)
     exact dt
    exact dt
   exact dt
  rintro d hst
  dsimp only at hst ⊢
  refine am rfl (fun hc => ?_) (fun hc => ?_)
  ·have hhd : l9 p (g8 p.pages j) x = false := by rw [hst, hc]; rfl
   refine yS fun _ K33 => ?_
   refine yR ?_
   refine yA rfl rfl ?_
   refine yN ?_
   dsimp only [St.put]
   refine K33 _ ?_
   refine ar ?_
   refine bc rfl (by constructor) zN zS ?_
   exact vb (vg hx (by rw [vh, hhd]; rfl)).symm
  have hhd : l9 p (g8 p.pages j) x = true := by rw [hst, hc]; rfl
  refine av ?_
  refine K31 _ ?_
  refine yS fun _ K34 => ?_
  refine yS fun _ K35 => ?_
  refine yR ?_
  refine yF rfl rfl rfl rfl ?_
  try dsimp only [St.put]
  refine bz rfl (c := i1 p.text) (ju (cs := cells p) rfl rfl (show 1 ≤ 4 by decide)) ?_
  refine yE rfl rfl rfl ?_
  refine yF rfl rfl rfl rfl ?_
  refine yL rfl rfl rfl ?_
  refine yF rfl rfl rfl rfl ?_
  refine yL rfl rfl rfl ?_
  try dsimp only [St.put]
  refine ae rfl (ax rfl rfl rfl (ub0 p.text x x.fst x.found ht) ?_)
  refine aa rfl (dl rfl rfl) ?_
  refine em (fun hs => ?_) (fun hs => ?_)
  ·have hf1 : g5 p.text x x.fst x.found = false := by simpa using hs
   refine yM rfl rfl ?_
   refine yK rfl ?_
   refine yK rfl ?_
   refine yK rfl ?_
   refine yK rfl ?_
   refine yK rfl ?_
   refine yK rfl ?_
   refine yK rfl ?_
   refine yK rfl ?_
   refine yK rfl ?_
   refine aa rfl (bw rfl rfl (by constructor)) ?_
   refine yN ?_
   dsimp only [St.put]
   refine K35 _ ?_
   refine am rfl (fun _ => ?_) (fun h => by cases h)
   refine yS fun _ K36 => ?_
   refine yR ?_
   refine yA rfl rfl ?_
   refine yN ?_
   dsimp only [St.put]
   refine K36 _ ?_
   refine ar ?_
   refine bc rfl (by constructor) zN zS ?_
   exact vb (vg hx (by rw [vh, hhd, hf1]; first | rfl | (rw [hf2]; rfl))).symm
  have hf1 : g5 p.text x x.fst x.found = true := by simpa using hs
  refine yM rfl rfl ?_
  refine yF rfl rfl rfl rfl ?_
  try dsimp only [St.put]
  refine bz rfl (c := i1 p.text) (ju (cs := cells p) rfl rfl (show 1 ≤ 4 by decide)) ?_
  refine yE rfl rfl rfl ?_
  refine yF rfl rfl rfl rfl ?_
  refine yL rfl rfl rfl ?_
  refine yF rfl rfl rfl rfl ?_
  refine yL rfl rfl rfl ?_
  try dsimp only [St.put]
  refine ae rfl (ax rfl rfl rfl (ub0 p.text x x.snd x.well ht) ?_)
  refine aa rfl (dl rfl rfl) ?_
  refine em (fun hs => ?_) (fun hs => ?_)
  ·have hf2 : g5 p.text x x.snd x.well = false := by simpa using hs
   refine aa rfl (cm rfl rfl (by constructor)) ?_
   refine yN ?_
   dsimp only [St.put]
   refine K35 _ ?_
   refine am rfl (fun _ => ?_) (fun h => by cases h)
   refine yS fun _ K37 => ?_
   refine yR ?_
   refine yA rfl rfl ?_
   refine yN ?_
   dsimp only [St.put]
   refine K37 _ ?_
   refine ar ?_
   refine bc rfl (by constructor) zN zS ?_
   exact vb (vg hx (by rw [vh, hhd, hf1]; first | rfl | (rw [hf2]; rfl))).symm
  have hf2 : g5 p.text x x.snd x.well = true := by simpa using hs
  refine aa rfl (cm rfl rfl (by constructor)) ?_
  refine yN ?_
  dsimp only [St.put]
  refine K35 _ ?_
  refine am rfl (fun h => by cases h) (fun _ => ?_)
  refine av ?_
  refine K34 _ ?_
  refine yR ?_
  refine yF rfl rfl rfl rfl ?_
  refine yL rfl rfl rfl ?_
  refine yA rfl rfl ?_
  refine yN ?_
  dsimp only [St.put]
  refine K29 _ ?_
  refine yR ?_
  refine yM rfl rfl ?_
  refine aa rfl (bq rfl rfl rfl (by omega)) ?_
  refine yA rfl rfl ?_
  refine yN ?_
  dsimp only [St.put]
  rw [← udp hx]
  exact ⟨j + 1, by omega, ⟨by omega, by rw [ucc, hK.2, yd hx, vh, hhd, hf1, hf2]; rfl⟩, ⟨⟨rfl, rfl⟩, zF, zB, zN, zX⟩⟩
 replace hc := of_decide_eq_false hc
 obtain rfl : j = p.pages.length := by omega
 refine cv ?_
 refine K25 _ ?_
 refine yS fun _ K38 => ?_
 refine yR ?_
 refine yA rfl rfl ?_
 refine yN ?_
 dsimp only [St.put]
 refine K38 _ ?_
 refine ar ?_
 refine bc rfl (by constructor) zN zS ?_
 exact vb (by unfold fw; rw [hRB, hK.2, decide_eq_true s3]; rfl)
end Go.Proofs.YtbbdginipiljdaaGreatDoor
namespace Go.AB
open Go Go.RowKit
open Go.AB.Enc (cells)
open Go.PB (aw ai PlaceD ba bf bd bn aq af cj bj cz c5)
theorem qn {p : af} {n : Int} (h : ed p n = 0) : cg p = 0 ∧ ∃ (j : Nat) (x : aq), n = (j : Int) ∧ p.pages[j]? = some x ∧ l5 p n = x := by
 unfold ed at h
 by_cases hc : cg p = 0
 ·rw [decide_eq_true hc, cond_true] at h
  cases hb : inB n 0 ((p.pages.length : Int) - 1)
  ·rw [hb] at h; cases h
  rw [inB_true] at hb
  obtain ⟨x, hx⟩ : ∃ x, p.pages[n.toNat]? = some x := ⟨_, List.getElem?_eq_getElem (show n.toNat < p.pages.length by omega)⟩
  exact ⟨hc, n.toNat, x, by omega, hx, by unfold l5; rw [hx]; rfl⟩
 rw [decide_eq_false hc, cond_false] at h
 exact absurd h hc
end Go.AB
namespace Go.Proofs.YtbbdginipiljdaaGreatDoor
set_option maxRecDepth 10000
open Go.RowKit Go.AB
open Go.AB.Enc (cells)
open Go.PB (aw ai PlaceD ba bf bd bn aq af cj bj cz c5)
theorem ui8 (p : af) : Pure Tryz.prog 49 [val p] (.v (.int .i64 (cg p))) := by
 refine ct Tryz.func49 rfl (fun m => .v) fun G nx => ?_
 simp only [Tryz.ntmps49, List.length_cons, List.length_nil, Nat.reduceAdd, Nat.reduceSub]
 refine bu fun hlt => ?_
 dsimp only at hlt
 refine yS fun _ K1 => ?_
 refine yR ?_
 try dsimp only [St.put]
 refine yB rfl rfl rfl ?_
 refine yA rfl rfl ?_
 refine yN ?_
 dsimp only [St.put]
 refine K1 _ ?_
 refine yS fun _ K2 => ?_
 refine yS fun _ K3 => ?_
 refine yR ?_
 refine yF rfl rfl rfl rfl ?_
 try dsimp only [St.put]
 refine bz rfl (c := i1 p.text) (ju (cs := cells p) rfl rfl (show 1 ≤ 4 by decide)) ?_
 try dsimp only [St.put]
 refine ae rfl (ax rfl rfl rfl (upa p.text) ?_)
 refine yA rfl rfl ?_
 refine yN ?_
 dsimp only [St.put]
 refine K3 _ ?_
 refine yS fun _ K4 => ?_
 refine yR ?_
 refine yM rfl rfl ?_
 refine aa rfl (et rfl rfl rfl) ?_
 refine yN ?_
 dsimp only [St.put]
 refine K4 _ ?_
 refine am rfl (fun hc => ?_) (fun hc => ?_)
 ·have ht : dp p.text = false := by
   have h0 := i9 hc
   unfold i0 at h0
   cases h1 : dp p.text
   ·rfl
   rw [h1] at h0; exact absurd rfl h0
  refine yS fun _ K5 => ?_
  refine yR ?_
  refine yM rfl rfl ?_
  refine yA rfl rfl ?_
  refine yN ?_
  dsimp only [St.put]
  refine K5 _ ?_
  refine ar ?_
  refine bc rfl (by constructor) zN zS ?_
  exact vi (by simp [cg, i0, ht])
 have ht : dp p.text = true := by
  have h0 := g3 hc
  unfold i0 at h0
  cases h1 : dp p.text
  ·rw [h1] at h0; cases h0
  rfl
 refine av ?_
 refine K2 _ ?_
 refine yS fun _ K6 => ?_
 refine yS fun _ K7 => ?_
 refine yR ?_
 refine yE rfl rfl rfl ?_
 try dsimp only [St.put]
 refine ae rfl (ax rfl rfl rfl (ui6 p ht) ?_)
 refine aa rfl (dl rfl rfl) ?_
 refine yN ?_
 dsimp only [St.put]
 refine K7 _ ?_
 refine am rfl (fun hc => ?_) (fun hc => ?_)
 ·have hp : fw p = false := by simpa using hc
  refine yS fun _ K8 => ?_
  refine yR ?_
  refine yA rfl rfl ?_
  refine yN ?_
  dsimp only [St.put]
  refine K8 _ ?_
  refine ar ?_
  refine bc rfl (by constructor) zN zS ?_
  exact vi (by simp [cg, ht, hp])
 have hp : fw p = true := by simpa using hc
 refine av ?_
 refine K6 _ ?_
 refine yS fun _ K9 => ?_
 refine yR ?_
 refine yA rfl rfl ?_
 refine yN ?_
 dsimp only [St.put]
 refine K9 _ ?_
 refine ar ?_
 refine bc rfl (by constructor) zN zS ?_
 exact vi (by simp [cg, ht, hp])
end Go.Proofs.YtbbdginipiljdaaGreatDoor
namespace Go.Proofs.YtbbdginipiljdaaGreatDoor
set_option maxRecDepth 10000
open Go.RowKit Go.AB
open Go.AB.Enc (cells)
open Go.PB (aw ai PlaceD ba bf bd bn aq af cj bj cz c5)
end Go.Proofs.YtbbdginipiljdaaGreatDoor
namespace Go.Proofs.YtbbdginipiljdaaGreatDoor
set_option maxRecDepth 10000
open Go.RowKit Go.AB
open Go.AB.Enc (cells)
open Go.PB (aw ai PlaceD ba bf bd bn aq af cj bj cz c5)
end Go.Proofs.YtbbdginipiljdaaGreatDoor
namespace Go.Proofs.YtbbdginipiljdaaGreatDoor
set_option maxRecDepth 10000
open Go.RowKit Go.AB
open Go.AB.Enc (cells)
open Go.PB (aw ai PlaceD ba bf bd bn aq af cj bj cz c5)
theorem ui9 (a b : List Int) (ha : a.length ≤ 1000) (hb : b.length ≤ 1000) : Pure Tryz.prog 34 [lst a, lst b] (.v (.bool (gt a b))) := by
 refine ct Tryz.func34 rfl (fun m => .v) fun G nx => ?_
 simp only [Tryz.ntmps34, List.length_cons, List.length_nil, Nat.reduceAdd, Nat.reduceSub]
 refine bu fun hlt => ?_
 dsimp only at hlt
 refine yS fun _ K1 => ?_
 refine yR ?_
 refine yA rfl rfl ?_
 refine yN ?_
 dsimp only [St.put]
 refine K1 _ ?_
 refine yS fun _ K2 => ?_
 refine yS fun _ K3 => ?_
 refine yR ?_
 refine yM rfl rfl ?_
 refine aa rfl (bg rfl rfl (List.length_map _)) ?_
 refine yM rfl rfl ?_
 refine aa rfl (bg rfl rfl (List.length_map _)) ?_
 refine aa rfl (et rfl rfl rfl) ?_
 refine yN ?_
 dsimp only [St.put]
 refine K3 _ ?_
 refine am rfl (fun hc => ?_) (fun hc => ?_)
 ·have hl : ¬ a.length = b.length := by
   have := i9 hc
   omega
  refine yS fun _ K4 => ?_
  refine yR ?_
  refine yM rfl rfl ?_
  refine aa rfl (bg rfl rfl (List.length_map _)) ?_
  refine yM rfl rfl ?_
  refine aa rfl (bg rfl rfl (List.length_map _)) ?_
  refine aa rfl (cb rfl rfl rfl) ?_
  refine yA rfl rfl ?_
  refine yN ?_
  dsimp only [St.put]
  refine K4 _ ?_
  refine ar ?_
  refine bc rfl (by constructor) zN zS ?_
  exact vb (by simp [gt, hl])
 have hl : a.length = b.length := by
  have := g3 hc
  omega
 refine av ?_
 refine K2 _ ?_
 refine yS fun _ K5 => ?_
 refine yS fun _ K6 => ?_
 refine yR ?_
 refine yA rfl rfl ?_
 refine yN ?_
 dsimp only [St.put]
 refine K6 _ ?_
 refine az ?_
 refine ce 6 ?_
 refine zQ ?_
 refine cy (G) zX ?_
 dsimp only
 refine cx (X := Nat) (fun k => k ≤ a.length ∧ a.take k = b.take k) (fun k => a.length - k) (fun k => [(5, .v (.int .i64 (k : Int)))]) (fun k G' => G') 0 rfl ?_ ?_ (fun _ _ h => h) ?_ ?_ ?_
 ·exact ⟨Nat.zero_le _, by simp⟩
 ·exact zF
 ·rintro k hI
  exact zL
 ·exact fun _ _ _ _ h => .inl h
 rintro k hI
 dsimp only at hI ⊢
 refine yS fun _ K7 => ?_
 refine yS fun _ K8 => ?_
 refine yR ?_
 refine yM rfl rfl ?_
 refine yM rfl rfl ?_
 refine aa rfl (bg rfl rfl (List.length_map _)) ?_
 refine aa rfl (cb rfl rfl rfl) ?_
 refine yN ?_
 dsimp only [St.put]
 refine K8 _ ?_
 refine am rfl (fun hc => ?_) (fun hc => ?_)
 ·replace hc := of_decide_eq_true hc
  obtain ⟨x, hx⟩ : ∃ x, a[k]? = some x := c7 (by omega)
  obtain ⟨y, hy⟩ : ∃ y, b[k]? = some y := c7 (by omega)
  refine av ?_
  refine K7 _ ?_
  refine yS fun _ K9 => ?_
  refine az ?_
  refine yS fun _ K10 => ?_
  refine gu [(0, none), (1, none), (2, none), (3, none), (4, none), (5, none), (6, none), (7, none), (8, none)] (fun i => [].contains i) (fun i => [].contains i) (fun i => [0, 1, 2, 4, 5, 6, 8].contains i) [] (by kernel_rfl) (by kernel_rfl) ?_
  refine xM rfl rfl rfl rfl rfl ?_
  refine xM rfl rfl rfl rfl rfl ?_
  try dsimp only [St.put]
  refine ah rfl rfl rfl rfl (bp rfl rfl rfl rfl (bk (by assumption)) (Enc.len _)) ?_
  try dsimp only [St.put]
  refine ay rfl rfl rfl rfl (ca rfl rfl) ?_
  refine xM rfl rfl rfl rfl rfl ?_
  refine xM rfl rfl rfl rfl rfl ?_
  try dsimp only [St.put]
  refine ah rfl rfl rfl rfl (bp rfl rfl rfl rfl (bk (by assumption)) (Enc.len _)) ?_
  try dsimp only [St.put]
  refine ay rfl rfl rfl rfl (ca rfl rfl) ?_
  refine ah rfl rfl rfl rfl (et rfl rfl rfl) ?_
  refine ci ?_
  dsimp only [St.put]
  refine K10 _ ?_
  refine am rfl (fun hc => ?_) (fun hc => ?_)
  ·have hxy : x ≠ y := i9 hc
   refine yS fun _ K11 => ?_
   refine gu [(0, none), (1, none), (2, none), (3, none), (4, none), (5, none), (6, none), (7, none), (8, none), (9, none)] (fun i => [].contains i) (fun i => [].contains i) (fun i => [0, 1, 2, 4, 5, 6, 8, 9].contains i) [] (by kernel_rfl) (by kernel_rfl) ?_
   refine xM rfl rfl rfl rfl rfl ?_
   refine xM rfl rfl rfl rfl rfl ?_
   try dsimp only [St.put]
   refine ah rfl rfl rfl rfl (bp rfl rfl rfl rfl (bk (by assumption)) (Enc.len _)) ?_
   try dsimp only [St.put]
   refine ay rfl rfl rfl rfl (ca rfl rfl) ?_
   refine xM rfl rfl rfl rfl rfl ?_
   refine xM rfl rfl rfl rfl rfl ?_
   try dsimp only [St.put]
   refine ah rfl rfl rfl rfl (bp rfl rfl rfl rfl (bk (by assumption)) (Enc.len _)) ?_
   try dsimp only [St.put]
   refine ay rfl rfl rfl rfl (ca rfl rfl) ?_
   refine ah rfl rfl rfl rfl (cb rfl rfl rfl) ?_
   refine ah rfl rfl rfl rfl (fh rfl (by constructor)) ?_
   refine ci ?_
   dsimp only [St.put]
   refine K11 _ ?_
   refine ar ?_
   refine bc rfl (by constructor) zN zS ?_
   exact vb (by rw [un3 hl, decide_eq_decide]; exact (ude hI.2 hx hy hxy).symm)
  have hxy : x = y := g3 hc
  refine av ?_
  refine K9 _ ?_
  refine yR ?_
  refine yM rfl rfl ?_
  refine aa rfl (bq rfl rfl rfl (by omega)) ?_
  refine yA rfl rfl ?_
  refine yN ?_
  dsimp only [St.put]
  exact ⟨k + 1, by omega, ⟨by omega, xn hI.2 hx (hxy ▸ hy)⟩, ⟨⟨rfl, rfl⟩, zF, zB, zN, zX⟩⟩
 replace hc := of_decide_eq_false hc
 refine cv ?_
 refine K5 _ ?_
 refine yS fun _ K12 => ?_
 refine yR ?_
 refine yA rfl rfl ?_
 refine yN ?_
 dsimp only [St.put]
 refine K12 _ ?_
 refine ar ?_
 refine bc rfl (by constructor) zN zS ?_
 exact vb (by
  have h1 := hI.2
  rw [fu (by omega), fu (by omega)] at h1
  rw [h1, uab])
end Go.Proofs.YtbbdginipiljdaaGreatDoor
namespace Go.AB
open Go Go.RowKit
open Go.AB.Enc (cells)
open Go.PB (aw ai PlaceD ba bf bd bn aq af cj bj)
/-! ### First and second readers change their places -/
/-! ### Errors that are missed -/
end Go.AB
namespace Go.AB
open Go Go.RowKit
open Go.AB.Enc (cells)
open Go.PB (aw ai PlaceD ba bf bd bn aq af cj bj cz c5)
def rf (R : Nat → Int) (c : Int) (l : List Int) : Int := l.foldl (fun n z => min n (R z.toNat)) c
def kr (R : Nat → Int) (n : Int) (l : List Int) : Nat → Int := l.foldl (fun R z => fun i => bif decide (i = z.toNat) then R z.toNat - n else R i) R
theorem uhj (R : Nat → Int) (n : Int) : kr R n [] = R := rfl
theorem uks {R : Nat → Int} {c : Int} {l : List Int} {k : Nat} {z : Int} (h : l[k]? = some z) : rf R c (l.take (k + 1)) = min (rf R c (l.take k)) (R z.toNat) := by
 unfold rf; rw [List.take_add_one, h, Option.toList_some, List.foldl_append]; rfl
theorem uhi {R : Nat → Int} {n : Int} {l : List Int} {k : Nat} {z : Int} (h : l[k]? = some z) : kr R n (l.take (k + 1)) = fun i => bif decide (i = z.toNat) then kr R n (l.take k) z.toNat - n else kr R n (l.take k) i := by
 unfold kr; rw [List.take_add_one, h, Option.toList_some, List.foldl_append]; rfl
theorem un9 {p : af} {j : Nat} {x : aq} (hx : p.pages[j]? = some x) (R C : Nat → Int) : (bi p).alone R C j = rf R (C j) (dd p x) := by
 simp only [Net.alone, bi, hx, dd, rf]
 by_cases q1 : 0 ≤ x.fst <;> by_cases q2 : 0 ≤ x.snd
 ·simp [q1, q2, n2, show ((p.firsts.length : Int) + x.snd).toNat = p.firsts.length + x.snd.toNat by omega]
 ·simp [q1, q2, n2]
 ·simp [q1, q2, n2, show ((p.firsts.length : Int) + x.snd).toNat = p.firsts.length + x.snd.toNat by omega]
 ·simp [q1, q2, n2]
theorem ula {p : af} (h : dg p) {j : Nat} {x : aq} (hx : p.pages[j]? = some x) (R : Nat → Int) (n : Int) : (bi p).lessR R j n = kr R n (dd p x) := by
 have hp := pageB_true.1 (h.page j x hx)
 have h1 := hp.fst
 have h2 := hp.snd
 funext i
 simp only [Net.lessR, Net.by, bi, hx, dd, kr]
 by_cases q1 : 0 ≤ x.fst <;> by_cases q2 : 0 ≤ x.snd
 ·have e2 : ((p.firsts.length : Int) + x.snd).toNat = p.firsts.length + x.snd.toNat := by omega
  have hne : ¬ p.firsts.length + x.snd.toNat = x.fst.toNat := by omega
  rw [decide_eq_true q1, decide_eq_true q2]
  simp only [cond_true, List.cons_append, List.nil_append, List.foldl_cons, List.foldl_nil, e2, Option.some.injEq]
  by_cases z1 : i = x.fst.toNat
  ·have z2 : ¬ i = p.firsts.length + x.snd.toNat := by omega
   simp [z1.symm, z2, Ne.symm z2]
  ·by_cases z2 : i = p.firsts.length + x.snd.toNat
   ·simp [z1, Ne.symm z1, z2, hne, Ne.symm hne]
   ·simp [z1, Ne.symm z1, z2, Ne.symm z2]
 ·rw [decide_eq_true q1, decide_eq_false q2]
  simp only [cond_true, cond_false, List.append_nil, List.foldl_cons, List.foldl_nil, Option.some.injEq]
  by_cases z1 : i = x.fst.toNat
  ·simp [z1]
  ·simp [z1, Ne.symm z1]
 ·have e2 : ((p.firsts.length : Int) + x.snd).toNat = p.firsts.length + x.snd.toNat := by omega
  rw [decide_eq_false q1, decide_eq_true q2]
  simp only [cond_true, cond_false, List.nil_append, List.foldl_cons, List.foldl_nil, e2, Option.some.injEq]
  by_cases z2 : i = p.firsts.length + x.snd.toNat
  ·simp [z2]
  ·simp [z2, Ne.symm z2]
 ·rw [decide_eq_false q1, decide_eq_false q2]
  simp
theorem uac {p : af} {R C : Nat → Int} (hB : Bd p R C) {j : Nat} {n : Int} (h0 : 0 ≤ n) (hn : n ≤ (bi p).alone R C j) : Bd p ((bi p).lessR R j n) (dq C j) := by
 refine ⟨fun i => ?_, fun k => ?_, hB.nr, hB.np⟩
 ·unfold Net.lessR
  cases hb : (bi p).by j i
  ·exact hB.r i
  ·have h1 := (Net.le_alone.1 hn).2 i hb
   have h2 := hB.r i
   show -1000000 ≤ R i - n ∧ R i - n ≤ 1000000
   omega
 ·unfold dq
  cases decide (k = j)
  ·exact hB.c k
  ·exact ⟨Int.le_refl _, by show (0 : Int) ≤ 1000000; omega⟩
/-- what is above has been looked at -/
def FromTop (p : af) (R C : Nat → Int) (j : Nat) (n : Int) : Prop := (bi p).pick R C j ≤ n ∧ n ≤ (bi p).alone R C j ∧ ∀ m, n < m → m ≤ (bi p).alone R C j → ¬ (bi p).most R C ≤ m + (bi p).most ((bi p).lessR R j m) (dq C j)
theorem FromTop.start {p : af} {R C : Nat → Int} {j : Nat} (h : (bi p).Pick R C j ((bi p).pick R C j)) : FromTop p R C j ((bi p).alone R C j) := ⟨h.le, Int.le_refl _, fun m h1 h2 => by omega⟩
theorem FromTop.stop {p : af} {R C : Nat → Int} {j : Nat} {n : Int} (h : (bi p).Pick R C j ((bi p).pick R C j)) (k : FromTop p R C j n) (hs : (bi p).most R C ≤ n + (bi p).most ((bi p).lessR R j n) (dq C j)) : n = (bi p).pick R C j :=
 Net.Pick.uniq ⟨Int.le_trans h.nn k.1, k.2.1, hs, k.2.2⟩ h
theorem FromTop.down {p : af} {R C : Nat → Int} {j : Nat} {n : Int} (h : (bi p).Pick R C j ((bi p).pick R C j)) (k : FromTop p R C j n) (hs : ¬ (bi p).most R C ≤ n + (bi p).most ((bi p).lessR R j n) (dq C j)) : FromTop p R C j (n - 1) := by
 refine ⟨?_, by have := k.2.1; omega, fun m h1 h2 => ?_⟩
 ·have h1 := k.1
  by_cases e : n = (bi p).pick R C j
  ·subst e
   exact absurd h.ok hs
  ·omega
 ·by_cases e : m = n
  ·subst e; exact hs
  ·exact k.2.2 m (by omega) h2
end Go.AB
namespace Go.AB
open Go Go.RowKit
open Go.AB.Enc (cells)
section
variable {P : Program} {o : Oper} {st : St} {K : St → Prop}
end
end Go.AB
namespace Go.AB
open Go Go.RowKit
open Go.AB.Enc (cells)
variable {ρ : Option Nat}
section
variable {P : Program} {Q : Exit → St → Prop} {st : St}
end
section
variable {P : Program} {o : Oper} {st : St} {K : St → Prop}
end
end Go.AB
namespace Go.AB
open Go Go.RowKit
/-- What stands in a slot is known less well. -/
theorem w5 {ρ : Option Nat} {P : Program} {Q : Exit → St → Prop} {st : St} {x : Code} (i : Nat) {c : C} (c' : C) (h0 : st.at i = c) (hw : Wk c c') (h : AW ρ P x Q { st with r := (i, c') :: st.r }) : AW ρ P x Q st := by
 intro E w a hs
 have hp := hs.at i
 rw [h0] at hp
 refine h E w a ⟨hs.d, hs.sz, fun j v hj => ?_, hs.g⟩
 simp only [cp]
 cases hb : Nat.beq i j
 ·exact hs.t j v hj
 ·have hij := Nat.eq_of_beq_eq_true hb
  subst hij
  have hv : a.tmps.getD i undef = v := by rw [Array.getD_eq_getD_getElem?, hj]; rfl
  rw [hv] at hp
  exact hw.2 _ _ _ hp
end Go.AB
namespace Go.AB
open Go Go.RowKit
open Go.AB.Enc (cells)
open Go.PB (aw ai PlaceD ba bf bd bn aq af cj bj cz c5)
theorem umj {l : List Int} {k : Nat} {z : Int} (h : l[k]? = some z) : (dh l)[k]? = some (.v (.int .i64 z)) := by
 have e : dh l = l.map fun y => .v (.int .i64 y) := by
  clear h
  induction l with
  | nil => rfl
  | cons y l ih =>
   have h1 : dh (y :: l) = cells y ++ dh l := by simp [dh]
   rw [h1, ih]; rfl
 rw [e, List.getElem?_map, h]; rfl
end Go.AB
namespace Go.Proofs.YtbbdginipiljdaaGreatDoor
set_option maxRecDepth 10000
open Go.RowKit Go.AB
open Go.AB.Enc (cells)
open Go.PB (aw ai PlaceD ba bf bd bn aq af cj bj cz c5)
theorem yb {p : af} (h : dg p) {j : Nat} {x : aq} (hx : p.pages[j]? = some x) {k : Nat} (hk : k < (dd p x).length) : ∃ zn : Nat, (dd p x)[k]? = some (zn : Int) ∧ zn < bv p := by
 have hp := pageB_true.1 (h.page j x hx)
 have h1 := hp.fst
 have h2 := hp.snd
 obtain ⟨z, hz⟩ : ∃ z, (dd p x)[k]? = some z := ⟨_, List.getElem?_eq_getElem hk⟩
 have hm := List.mem_of_getElem? hz
 have hb : 0 ≤ z ∧ z < (bv p : Int) := by
  unfold dd at hm
  unfold bv
  rw [List.mem_append] at hm
  rcases hm with hm | hm
  ·by_cases q : 0 ≤ x.fst
   ·rw [decide_eq_true q, cond_true, List.mem_singleton] at hm; omega
   rw [decide_eq_false q] at hm; cases hm
  by_cases q : 0 ≤ x.snd
  ·rw [decide_eq_true q, cond_true, List.mem_singleton] at hm; omega
  rw [decide_eq_false q] at hm; cases hm
 exact ⟨z.toNat, by rw [hz]; congr 1; omega, by omega⟩
end Go.Proofs.YtbbdginipiljdaaGreatDoor
namespace Go.AB
open Go Go.RowKit
open Go.AB.Enc (cells)
open Go.PB (aw ai PlaceD ba bf bd bn aq af cj bj cz c5)
theorem ufi (r : Int) (s i : Nat) : r * ((s / 2 ^ i % 2 : Nat) : Int) = bif s.testBit i then r else 0 := by
 have h2 : s / 2 ^ i % 2 < 2 := Nat.mod_lt _ (by omega)
 cases hb : s.testBit i
 ·have : s / 2 ^ i % 2 = 0 := by
   have : ¬ ((s / 2 ^ i % 2 : Nat) : Int) = 1 := fun e => by
    have := bit_eq.1 e
    rw [hb] at this; cases this
   omega
  rw [this]; simp
 have : s / 2 ^ i % 2 = 1 := by have := bit_eq.2 hb; omega
 rw [this]; simp
theorem unv (s i : Nat) : decide (((s / 2 ^ i % 2 : Nat) : Int) = 1) = s.testBit i := by
 rw [Bool.eq_iff_iff, decide_eq_true_eq]
 exact bit_eq
theorem ui0 {p : af} (h : dg p) {j : Nat} {x : aq} (hx : p.pages[j]? = some x) {z : Int} (hz : z ∈ dd p x) : ∃ zn : Nat, z = (zn : Int) ∧ zn ≤ 6 := by
 obtain ⟨k, hk⟩ := List.getElem?_of_mem hz
 obtain ⟨zn, h1, h2⟩ := uiz h hx (List.getElem?_eq_some_iff.1 hk).1
 rw [hk] at h1
 cases h1
 exact ⟨zn, rfl, h2⟩
theorem vf {p : af} {j : Nat} {x : aq} (hx : p.pages[j]? = some x) : (p.pages.map (dd p))[j]? = some (dd p x) := by rw [List.getElem?_map, hx]; rfl
end Go.AB
namespace Go.Proofs.YtbbdginipiljdaaGreatDoor
set_option maxRecDepth 10000
open Go.RowKit Go.AB
open Go.AB.Enc (cells)
open Go.PB (aw ai PlaceD ba bf bd bn aq af cj bj cz c5)
theorem ujp (k s : Nat) (hk : k ≤ 64) (hs : s ≤ 1000) : Pure Tryz.prog 91 [.v (.int .i64 (k : Int)), .elem [.v (.int .i64 (s : Int))]] (.v (.bool (s.testBit k))) := by
 refine ct Tryz.func91 rfl (fun m => .v) fun G nx => ?_
 simp only [Tryz.ntmps91, List.length_cons, List.length_nil, Nat.reduceAdd, Nat.reduceSub]
 refine bu fun hlt => ?_
 dsimp only at hlt
 refine yS fun _ K1 => ?_
 refine yR ?_
 refine yA rfl rfl ?_
 refine yN ?_
 dsimp only [St.put]
 refine K1 _ ?_
 refine yS fun _ K2 => ?_
 refine yR ?_
 refine yL rfl rfl rfl ?_
 refine yM rfl rfl ?_
 refine aa rfl (vr (m := s) (n := k) rfl rfl rfl hk (by show (s : Int) ≤ 9223372036854775807; omega) (by decide)) ?_
 refine aa rfl (vw (m := s / 2 ^ k) rfl rfl rfl (Nat.lt_of_le_of_lt (Nat.div_le_self _ _) (by show s < 2 ^ 64; omega)) (by decide)) ?_
 refine aa rfl (fg rfl rfl rfl) ?_
 refine yA rfl rfl ?_
 refine yN ?_
 dsimp only [St.put]
 refine K2 _ ?_
 refine ar ?_
 refine bc rfl (by constructor) zN zS ?_
 exact vb (unv s k)
set_option maxHeartbeats 1000000 in
theorem ucg (p : af) (R C : Nat → Int) (s : Nat) (h : dg p) (hB : Bd p R C) (hs : s ≤ 1000) : Pure Tryz.prog 56 [val (f4 p R C), .v (.int .i64 (s : Int))] (.v (.int .i64 ((bi p).f R C fun i => s.testBit i))) := by
 refine ct Tryz.func56 rfl (fun m => .v) fun G nx => ?_
 simp only [Tryz.ntmps56, List.length_cons, List.length_nil, Nat.reduceAdd, Nat.reduceSub]
 refine bu fun hlt => ?_
 dsimp only at hlt
 have hnr := hB.nr
 have hnp := hB.np
 have hl1 := gk (bv p) R
 have hl2 := gk p.pages.length C
 refine yS fun _ K1 => ?_
 refine yR ?_
 try dsimp only [St.put]
 refine yB rfl rfl rfl ?_
 try dsimp only [St.put]
 refine yB rfl rfl rfl ?_
 refine yA rfl rfl ?_
 refine yN ?_
 dsimp only [St.put]
 refine K1 _ ?_
 refine yS fun _ K2 => ?_
 refine yR ?_
 refine yA rfl rfl ?_
 refine yN ?_
 dsimp only [St.put]
 refine K2 _ ?_
 refine yS fun _ K3 => ?_
 refine yS fun _ K4 => ?_
 refine yR ?_
 refine yF rfl rfl rfl rfl ?_
 refine yL rfl rfl rfl ?_
 refine aa rfl (bg rfl rfl (List.length_map _)) ?_
 refine yM rfl rfl ?_
 refine yN ?_
 dsimp only [St.put]
 refine K4 _ ?_
 refine az ?_
 refine ce 14 ?_
 refine zQ ?_
 refine cy (G) zX ?_
 dsimp only
 refine cx (X := Nat) (fun i => i ≤ bv p) (fun i => bv p - i) (fun i => [(5, .v (.int .i64 (fR R (fun i => s.testBit i) i))), (6, .any), (7, .any), (13, .v (.int .i64 (i : Int)))]) (fun i G' => G') 0 rfl ?_ ?_ (fun _ _ h => h) ?_ ?_ ?_
 ·exact Nat.zero_le _
 ·exact zF
 ·rintro i hI
  exact zL
 ·exact fun _ _ _ _ h => .inl h
 rintro i hI
 dsimp only at hI ⊢
 refine yS fun _ K5 => ?_
 refine yR ?_
 refine aa rfl (cb rfl rfl rfl) ?_
 refine yN ?_
 dsimp only [St.put]
 refine K5 _ ?_
 refine yS fun _ K6 => ?_
 refine am rfl (fun hc => ?_) (fun hc => ?_)
 ·replace hc := of_decide_eq_true hc
  have hi : i < bv p := by
   have : (i : Int) < ((bh (bv p) R).length : Int) := hc
   rw [hl1] at this
   omega
  have hRi := j1 R hi
  have hbd := zq hB (fun i => s.testBit i) i (by omega)
  have hrb := hB.r i
  have hmb : -1000000 ≤ R i * ((s / 2 ^ i % 2 : Nat) : Int) ∧ R i * ((s / 2 ^ i % 2 : Nat) : Int) ≤ 1000000 := by
   rw [ufi]
   cases s.testBit i
   ·show -1000000 ≤ (0 : Int) ∧ (0 : Int) ≤ 1000000
    omega
   exact hrb
  refine av ?_
  refine K6 _ ?_
  refine yS fun _ K7 => ?_
  refine az ?_
  refine yS fun _ K8 => ?_
  refine yR ?_
  refine yM rfl rfl ?_
  refine aa rfl (bp rfl rfl rfl rfl (bk (by assumption)) (Enc.len _)) ?_
  refine yL rfl rfl rfl ?_
  refine yA rfl rfl ?_
  refine yA rfl rfl ?_
  refine yN ?_
  dsimp only [St.put]
  refine K8 _ ?_
  refine yR ?_
  refine yM rfl rfl ?_
  refine yM rfl rfl ?_
  refine yL rfl rfl rfl ?_
  refine yM rfl rfl ?_
  refine aa rfl (vr (m := s) (n := i) rfl rfl rfl (by show i ≤ 64; omega) (by show (s : Int) ≤ 9223372036854775807; omega) (by decide)) ?_
  refine aa rfl (vw (m := s / 2 ^ i) rfl rfl rfl (Nat.lt_of_le_of_lt (Nat.div_le_self _ _) (by show s < 2 ^ 64; omega)) (by decide)) ?_
  refine aa rfl (yu rfl rfl rfl (by omega)) ?_
  refine aa rfl (bq rfl rfl rfl (by omega)) ?_
  refine yA rfl rfl ?_
  refine yN ?_
  dsimp only [St.put]
  refine K7 _ ?_
  refine yR ?_
  refine aa rfl (bq rfl rfl rfl (by omega)) ?_
  refine yM rfl rfl ?_
  refine yN ?_
  dsimp only [St.put]
  rw [ufi, ← umo R (fun i => s.testBit i) i]
  exact ⟨i + 1, by omega, by omega, ⟨⟨rfl, rfl⟩, zF, zB, zN, zX⟩⟩
 replace hc := of_decide_eq_false hc
 obtain rfl : i = bv p := by
  have : ¬ (i : Int) < ((bh (bv p) R).length : Int) := hc
  rw [hl1] at this
  omega
 have hfr := zq hB (fun i => s.testBit i) _ (Nat.le_refl (bv p))
 obtain ⟨FR, hFR⟩ : ∃ FR, fR R (fun i => s.testBit i) (bv p) = FR := ⟨_, rfl⟩
 rw [hFR] at hfr
 refine cv ?_
 refine K3 _ ?_
 refine yS fun _ K9 => ?_
 refine yS fun _ K10 => ?_
 refine yR ?_
 refine yF rfl rfl rfl rfl ?_
 refine yL rfl rfl rfl ?_
 refine aa rfl (bg rfl rfl (List.length_map _)) ?_
 refine yM rfl rfl ?_
 refine yN ?_
 dsimp only [St.put]
 rw [hFR, show FR = FR + fC p C (fun i => s.testBit i) 0 by show FR = FR + 0; omega]
 refine K10 _ ?_
 refine az ?_
 refine ce 31 ?_
 refine zQ ?_
 refine cy (G) zX ?_
 dsimp only
 refine cx (X := Nat) (fun j => j ≤ p.pages.length) (fun j => p.pages.length - j) (fun j => [(5, .v (.int .i64 (FR + fC p C (fun i => s.testBit i) j))), (8, .any), (9, .any), (30, .v (.int .i64 (j : Int)))]) (fun j G' => G') 0 rfl ?_ ?_ (fun _ _ h => h) ?_ ?_ ?_
 ·exact Nat.zero_le _
 ·exact zF
 ·rintro j hI
  exact zL
 ·exact fun _ _ _ _ h => .inl h
 rintro j hJ
 dsimp only at hJ ⊢
 refine yS fun _ K11 => ?_
 refine yR ?_
 refine aa rfl (cb rfl rfl rfl) ?_
 refine yN ?_
 dsimp only [St.put]
 refine K11 _ ?_
 refine yS fun _ K12 => ?_
 refine am rfl (fun hc => ?_) (fun hc => ?_)
 ·replace hc := of_decide_eq_true hc
  have hj : j < p.pages.length := by
   have : (j : Int) < ((bh p.pages.length C).length : Int) := hc
   rw [hl2] at this
   omega
  obtain ⟨x, hx⟩ : ∃ x, p.pages[j]? = some x := c7 hj
  have hrx := vf hx
  have hCj := j1 C hj
  have hcb := hB.c j
  have hfc := ueo hB (fun i => s.testBit i) j (by omega)
  have hhit := ud2 hx fun i => s.testBit i
  refine av ?_
  refine K12 _ ?_
  refine yS fun _ K13 => ?_
  refine az ?_
  refine yS fun _ K14 => ?_
  refine yR ?_
  refine yM rfl rfl ?_
  refine aa rfl (bp rfl rfl rfl rfl (bk (by assumption)) (Enc.len _)) ?_
  refine yL rfl rfl rfl ?_
  refine yA rfl rfl ?_
  refine yA rfl rfl ?_
  refine yN ?_
  dsimp only [St.put]
  refine K14 _ ?_
  refine yS fun _ K15 => ?_
  refine yR ?_
  refine yF rfl rfl rfl rfl ?_
  refine yL rfl rfl rfl ?_
  refine yM rfl rfl ?_
  refine aa rfl (bp rfl rfl rfl rfl (bk (by assumption)) (Enc.len _)) ?_
  refine yL rfl rfl rfl ?_
  refine aa rfl (p8 rfl rfl) ?_
  try dsimp only [St.put]
  refine ae rfl (ax rfl rfl rfl (xd (dd p x) (fun z => s.testBit z.toNat) _ _ fun z hz => by obtain ⟨zn, rfl, h6⟩ := ui0 h hx hz; exact ujp zn s (by omega) hs) ?_)
  refine aa rfl (dl rfl rfl) ?_
  refine yN ?_
  dsimp only [St.put]
  refine K15 _ ?_
  refine am rfl (fun hc => ?_) (fun hc => ?_)
  ·have hhn : (bi p).hit (fun i => s.testBit i) j = false := by rw [hhit]; simpa using hc
   refine yR ?_
   refine yM rfl rfl ?_
   refine yM rfl rfl ?_
   refine aa rfl (bq rfl rfl rfl (by omega)) ?_
   refine yA rfl rfl ?_
   refine yN ?_
   dsimp only [St.put]
   refine K13 _ ?_
   refine yR ?_
   refine aa rfl (bq rfl rfl rfl (by omega)) ?_
   refine yM rfl rfl ?_
   refine yN ?_
   dsimp only [St.put]
   have e := uen p C (fun i => s.testBit i) j
   first
   | (have z : (bi p).hit (fun i => s.testBit i) j = true := hhy
      rw [z, cond_true, Int.add_zero] at e
      rw [← e]
      exact ⟨j + 1, by omega, by omega, ⟨⟨rfl, rfl⟩, zF, zB, zN, zX⟩⟩)
   | (have z : (bi p).hit (fun i => s.testBit i) j = false := hhn
      rw [z, cond_false] at e
      rw [Int.add_assoc, ← e]
      exact ⟨j + 1, by omega, by omega, ⟨⟨rfl, rfl⟩, zF, zB, zN, zX⟩⟩)
  have hhy : (bi p).hit (fun i => s.testBit i) j = true := by rw [hhit]; simpa using hc
  refine av ?_
  refine K13 _ ?_
  refine yR ?_
  refine aa rfl (bq rfl rfl rfl (by omega)) ?_
  refine yM rfl rfl ?_
  refine yN ?_
  dsimp only [St.put]
  have e := uen p C (fun i => s.testBit i) j
  first
  | (have z : (bi p).hit (fun i => s.testBit i) j = true := hhy
     rw [z, cond_true, Int.add_zero] at e
     rw [← e]
     exact ⟨j + 1, by omega, by omega, ⟨⟨rfl, rfl⟩, zF, zB, zN, zX⟩⟩)
  | (have z : (bi p).hit (fun i => s.testBit i) j = false := hhn
     rw [z, cond_false] at e
     rw [Int.add_assoc, ← e]
     exact ⟨j + 1, by omega, by omega, ⟨⟨rfl, rfl⟩, zF, zB, zN, zX⟩⟩)
 replace hc := of_decide_eq_false hc
 obtain rfl : j = p.pages.length := by
  have : ¬ (j : Int) < ((bh p.pages.length C).length : Int) := hc
  rw [hl2] at this
  omega
 refine cv ?_
 refine K9 _ ?_
 refine yS fun _ K16 => ?_
 refine yR ?_
 refine yM rfl rfl ?_
 refine yA rfl rfl ?_
 refine yN ?_
 dsimp only [St.put]
 refine K16 _ ?_
 refine ar ?_
 refine bc rfl (by constructor) zN zS ?_
 exact vi (by rw [uej, hFR])
set_option maxHeartbeats 1000000 in
theorem ta (p : af) (R C : Nat → Int) (h : dg p) (hB : Bd p R C) : Pure Tryz.prog 48 [val (f4 p R C)] (.v (.int .i64 ((bi p).most R C))) := by
 refine ct Tryz.func48 rfl (fun m => .v) fun G nx => ?_
 simp only [Tryz.ntmps48, List.length_cons, List.length_nil, Nat.reduceAdd, Nat.reduceSub]
 refine bu fun hlt => ?_
 dsimp only at hlt
 have hnr := hB.nr
 have hl1 := gk (bv p) R
 have h64 : 2 ^ bv p ≤ 2 ^ 6 := Nat.pow_le_pow_right (by omega) hnr
 have hpos : 0 < 2 ^ bv p := Nat.two_pow_pos _
 obtain ⟨g, hg⟩ : ∃ g : Nat → Int, (fun s => (bi p).f R C fun i => s.testBit i) = g := ⟨_, rfl⟩
 have hgs : ∀ s : Nat, (bi p).f R C (fun i => s.testBit i) = g s := fun s => congrFun hg s
 have hP : ∀ s : Nat, s ≤ 1000 → Pure Tryz.prog 56 [val (f4 p R C), .v (.int .i64 (s : Int))] (.v (.int .i64 (g s))) := fun s hs => by
  have := ucg p R C s h hB hs
  rwa [hgs] at this
 have hgb : ∀ s, -6000000 ≤ g s ∧ g s ≤ 14000000 := fun s => by rw [← hgs]; exact f_bd hB _
 refine yS fun _ K1 => ?_
 refine yR ?_
 try dsimp only [St.put]
 refine yB rfl rfl rfl ?_
 refine yA rfl rfl ?_
 refine yN ?_
 dsimp only [St.put]
 refine K1 _ ?_
 refine yS fun _ K2 => ?_
 refine yR ?_
 try dsimp only [St.put]
 refine bz rfl (c := val (f4 p R C)) (ju (cs := cells (f4 p R C)) rfl rfl (show 3 ≤ 3 by decide)) ?_
 try dsimp only [St.put]
 refine ae rfl (ax rfl rfl rfl (hP 0 (by omega)) ?_)
 refine yA rfl rfl ?_
 refine yN ?_
 dsimp only [St.put]
 refine K2 _ ?_
 refine yS fun _ K3 => ?_
 refine yS fun _ K4 => ?_
 refine yR ?_
 refine yF rfl rfl rfl rfl ?_
 refine yL rfl rfl rfl ?_
 refine aa rfl (bg rfl rfl (List.length_map _)) ?_
 refine aa rfl (vt (n := (bh (bv p) R).length) rfl rfl rfl (by rw [hl1]; omega)) ?_
 refine yM rfl rfl ?_
 refine yN ?_
 dsimp only [St.put]
 refine K4 _ ?_
 refine az ?_
 refine ce 12 ?_
 refine zQ ?_
 refine cy (G) zX ?_
 dsimp only
 refine cx (X := Nat) (fun s => s ≤ 2 ^ bv p) (fun s => 2 ^ bv p - s) (fun s => [(3, .v (.int .i64 (lu g s))), (4, .any), (11, .v (.int .i64 (s : Int)))]) (fun s G' => G') 0 rfl ?_ ?_ (fun _ _ h => h) ?_ ?_ ?_
 ·exact Nat.zero_le _
 ·exact zF
 ·rintro s hI
  exact zL
 ·exact fun _ _ _ _ h => .inl h
 rintro s hI
 dsimp only at hI ⊢
 refine yS fun _ K5 => ?_
 refine yR ?_
 refine aa rfl (cb rfl rfl rfl) ?_
 refine yN ?_
 dsimp only [St.put]
 refine K5 _ ?_
 refine yS fun _ K6 => ?_
 refine am rfl (fun hc => ?_) (fun hc => ?_)
 ·replace hc := of_decide_eq_true hc
  have hlt : s < 2 ^ bv p := by
   have : (s : Int) < ((2 ^ (bh (bv p) R).length : Nat) : Int) := hc
   rw [hl1] at this
   omega
  have hmb := uc9 hgb s
  have hgb1 := hgb s
  refine av ?_
  refine K6 _ ?_
  refine yS fun _ K7 => ?_
  refine az ?_
  refine yS fun _ K8 => ?_
  refine yR ?_
  refine yM rfl rfl ?_
  refine yA rfl rfl ?_
  refine yN ?_
  dsimp only [St.put]
  refine K8 _ ?_
  refine yR ?_
  refine yM rfl rfl ?_
  try dsimp only [St.put]
  refine bz rfl (c := val (f4 p R C)) (ju (cs := cells (f4 p R C)) rfl rfl (show 3 ≤ 3 by decide)) ?_
  refine yM rfl rfl ?_
  try dsimp only [St.put]
  refine ae rfl (ax rfl rfl rfl (hP s (by omega)) ?_)
  refine aa rfl (yv rfl rfl rfl rfl) ?_
  refine yA rfl rfl ?_
  refine yN ?_
  dsimp only [St.put]
  refine K7 _ ?_
  refine yR ?_
  refine aa rfl (bq rfl rfl rfl (by omega)) ?_
  refine yM rfl rfl ?_
  refine yN ?_
  dsimp only [St.put]
  rw [show min (lu g s) (g s) = lu g (s + 1) from rfl]
  exact ⟨s + 1, by omega, by omega, ⟨⟨rfl, rfl⟩, zF, zB, zN, zX⟩⟩
 replace hc := of_decide_eq_false hc
 obtain rfl : s = 2 ^ bv p := by
  have : ¬ (s : Int) < ((2 ^ (bh (bv p) R).length : Nat) : Int) := hc
  rw [hl1] at this
  omega
 refine cv ?_
 refine K3 _ ?_
 refine yS fun _ K9 => ?_
 refine yR ?_
 refine yM rfl rfl ?_
 refine yA rfl rfl ?_
 refine yN ?_
 dsimp only [St.put]
 refine K9 _ ?_
 refine ar ?_
 refine bc rfl (by constructor) zN zS ?_
 exact vi (by unfold Net.most; rw [hg]; rfl)
theorem uch (p : af) (R C : Nat → Int) (j : Nat) (x : aq) (h : dg p) (hx : p.pages[j]? = some x) : Pure Tryz.prog 43 [val (f4 p R C), .v (.int .i64 (j : Int))] (.v (.int .i64 ((bi p).alone R C j))) := by
 refine ct Tryz.func43 rfl (fun m => .v) fun G nx => ?_
 simp only [Tryz.ntmps43, List.length_cons, List.length_nil, Nat.reduceAdd, Nat.reduceSub]
 refine bu fun hlt => ?_
 dsimp only at hlt
 have hjl := (List.getElem?_eq_some_iff.1 hx).1
 have hCj := j1 C hjl
 have hrx := vf hx
 have hn1 := h.nf
 have hn2 := h.ns
 have hnr : bv p = p.firsts.length + p.seconds.length := rfl
 have hrl := yc p x
 refine yS fun _ K1 => ?_
 refine yR ?_
 try dsimp only [St.put]
 refine yB rfl rfl rfl ?_
 refine yA rfl rfl ?_
 refine yN ?_
 dsimp only [St.put]
 refine K1 _ ?_
 refine yS fun _ K2 => ?_
 refine yR ?_
 refine yF rfl rfl rfl rfl ?_
 refine yL rfl rfl rfl ?_
 refine yM rfl rfl ?_
 refine aa rfl (bp rfl rfl rfl rfl (bk (by assumption)) (Enc.len _)) ?_
 refine yL rfl rfl rfl ?_
 refine yA rfl rfl ?_
 refine yN ?_
 dsimp only [St.put]
 refine K2 _ ?_
 refine yS fun _ K3 => ?_
 refine yS fun _ K4 => ?_
 refine yR ?_
 refine yF rfl rfl rfl rfl ?_
 refine yL rfl rfl rfl ?_
 refine yM rfl rfl ?_
 refine aa rfl (bp rfl rfl rfl rfl (bk (by assumption)) (Enc.len _)) ?_
 refine yL rfl rfl rfl ?_
 refine aa rfl (bg rfl rfl (List.length_map _)) ?_
 refine yM rfl rfl ?_
 refine yN ?_
 dsimp only [St.put]
 refine K4 _ ?_
 refine az ?_
 refine ce 20 ?_
 refine zQ ?_
 refine cy (G) zX ?_
 dsimp only
 refine cx (X := Nat) (fun k => k ≤ (dd p x).length) (fun k => (dd p x).length - k) (fun k => [(5, .v (.int .i64 (rf R (C j) ((dd p x).take k)))), (7, .any), (19, .v (.int .i64 (k : Int)))]) (fun k G' => G') 0 rfl ?_ ?_ (fun _ _ h => h) ?_ ?_ ?_
 ·exact Nat.zero_le _
 ·exact zF
 ·rintro k hI
  exact zL
 ·exact fun _ _ _ _ h => .inl h
 rintro k hI
 dsimp only at hI ⊢
 refine yS fun _ K5 => ?_
 refine yR ?_
 refine aa rfl (cb rfl rfl rfl) ?_
 refine yN ?_
 dsimp only [St.put]
 refine K5 _ ?_
 refine yS fun _ K6 => ?_
 refine am rfl (fun hc => ?_) (fun hc => ?_)
 ·replace hc := of_decide_eq_true hc
  obtain ⟨zn, hz, hz6⟩ := yb h hx (k := k) (by omega)
  have hRz := j1 R hz6
  refine av ?_
  refine K6 _ ?_
  refine yS fun _ K7 => ?_
  refine az ?_
  refine yS fun _ K8 => ?_
  refine yR ?_
  refine aa rfl (bp rfl rfl rfl rfl (bk (by assumption)) (Enc.len _)) ?_
  refine yL rfl rfl rfl ?_
  refine yA rfl rfl ?_
  refine yN ?_
  dsimp only [St.put]
  refine K8 _ ?_
  refine yR ?_
  refine yM rfl rfl ?_
  refine yF rfl rfl rfl rfl ?_
  refine yL rfl rfl rfl ?_
  refine yM rfl rfl ?_
  refine aa rfl (bp rfl rfl rfl rfl (bk (by assumption)) (Enc.len _)) ?_
  refine yL rfl rfl rfl ?_
  refine aa rfl (yv rfl rfl rfl rfl) ?_
  refine yA rfl rfl ?_
  refine yN ?_
  dsimp only [St.put]
  refine K7 _ ?_
  refine yR ?_
  refine aa rfl (bq rfl rfl rfl (by omega)) ?_
  refine yM rfl rfl ?_
  refine yN ?_
  dsimp only [St.put]
  have e := uks (R := R) (c := C j) hz
  rw [Int.toNat_natCast] at e
  rw [← e]
  exact ⟨k + 1, by omega, by omega, ⟨⟨rfl, rfl⟩, zF, zB, zN, zX⟩⟩
 replace hc := of_decide_eq_false hc
 refine cv ?_
 refine K3 _ ?_
 refine yS fun _ K9 => ?_
 refine yR ?_
 refine yM rfl rfl ?_
 refine yA rfl rfl ?_
 refine yN ?_
 dsimp only [St.put]
 refine K9 _ ?_
 refine ar ?_
 refine bc rfl (by constructor) zN zS ?_
 exact vi (by rw [fu (show (dd p x).length ≤ k by omega), un9 hx])
end Go.Proofs.YtbbdginipiljdaaGreatDoor
namespace Go.AB
open Go Go.RowKit
/-- what an operation waits for -/
def qi (o : Oper) : List Nat := (o.after.toList.filter fun e => Region.binds .any e).map (·.on)
def o6 (l : List Bool) : Nat := (l.filter fun b => !b).length
theorem ym : ∀ {l : List Bool} {i : Nat}, l[i]? = some false → o6 (l.set i true) + 1 = o6 l
 | [], i, h => by simp at h
 | b :: l, 0, h => by
  simp only [List.getElem?_cons_zero, Option.some.injEq] at h
  subst h
  simp [o6]
 | b :: l, i + 1, h => by
  simp only [List.getElem?_cons_succ] at h
  have ih := ym h
  unfold o6 at ih ⊢
  cases b
  ·simp only [List.set_cons_succ, List.filter_cons, Bool.not_false, if_true, List.length_cons]; omega
  ·simp only [List.set_cons_succ, List.filter_cons, Bool.not_true, Bool.false_eq_true, if_false]; omega
theorem uj8 {l : List Bool} (h : o6 l = 0) (i : Nat) : l[i]? ≠ some false := fun e => by
 have := ym e
 omega
theorem uiy {ol : List Oper} {l : List Bool} {i : Nat} (h : i ∈ Region.ready .any ol.toArray l.toArray) (hl : l.length = ol.length) : ∃ o, ol[i]? = some o ∧ l[i]? = some false ∧ ∀ j ∈ qi o, l[j]? = some true := by
 unfold Region.ready at h
 simp only [List.mem_filter, List.mem_range, List.size_toArray, Bool.and_eq_true, Bool.not_eq_true'] at h
 obtain ⟨h1, h2, h3⟩ := h
 obtain ⟨o, ho⟩ : ∃ o, ol[i]? = some o := ⟨_, List.getElem?_eq_getElem h1⟩
 refine ⟨o, ho, ?_, fun j hj => ?_⟩
 ·have e := List.getElem?_eq_getElem (l := l) (i := i) (by omega)
  rw [Array.getD_eq_getD_getElem?, List.getElem?_toArray, e] at h2
  rw [e, ← h2]; rfl
 ·rw [List.getElem?_toArray, ho] at h3
  simp only [Option.map_some, Option.getD_some] at h3
  rw [← Array.all_toList, List.all_eq_true] at h3
  unfold qi at hj
  obtain ⟨e, he, rfl⟩ := List.mem_map.1 hj
  obtain ⟨he1, he2⟩ := List.mem_filter.1 he
  have := h3 e he1
  rw [he2, Bool.not_true, Bool.false_or, Array.getD_eq_getD_getElem?, List.getElem?_toArray] at this
  cases hb : l[e.on]? with
  | none => rw [hb] at this; cases this
  | some b => rw [hb] at this; rw [show b = true from this]
section
variable {P : Program} {ol : List Oper} {K : St → Prop} {late : Nat → Bool}
/-- whether each operation waits only for earlier ones -/
def fwdB (ol : List Oper) : Bool := (List.range ol.length).all fun i => ((ol[i]?).map fun o => (qi o).all fun j => decide (j < i)).getD true
theorem uix {l : List Bool} (hf : fwdB ol = true) (hl : l.length = ol.length) (h : Region.ready .any ol.toArray l.toArray = []) : ∀ i, i < ol.length → l[i]? = some true := by
 intro i
 induction i using Nat.strongRecOn with
 | _ i ih =>
  intro hi
  obtain ⟨o, ho⟩ : ∃ o, ol[i]? = some o := ⟨_, List.getElem?_eq_getElem hi⟩
  have e := List.getElem?_eq_getElem (l := l) (i := i) (by omega)
  cases hb : l[i]'(by omega) with
  | true => rw [e, hb]
  | false =>
   exfalso
   have hm : i ∈ Region.ready .any ol.toArray l.toArray := by
    unfold Region.ready
    simp only [List.mem_filter, List.mem_range, List.size_toArray, Bool.and_eq_true, Bool.not_eq_true']
    refine ⟨hi, by rw [Array.getD_eq_getD_getElem?, List.getElem?_toArray, e, hb]; rfl, ?_⟩
    rw [List.getElem?_toArray, ho]
    simp only [Option.map_some, Option.getD_some]
    rw [← Array.all_toList, List.all_eq_true]
    intro e1 he1
    cases hq : Region.binds .any e1 with
    | false => rfl
    | true =>
     rw [Bool.not_true, Bool.false_or, Array.getD_eq_getD_getElem?, List.getElem?_toArray]
     have hj : e1.on ∈ qi o := List.mem_map.2 ⟨e1, List.mem_filter.2 ⟨he1, hq⟩, rfl⟩
     have h1 := List.all_eq_true.1 hf i (List.mem_range.2 hi)
     rw [ho] at h1
     simp only [Option.map_some, Option.getD_some, List.all_eq_true] at h1
     have hlt := of_decide_eq_true (h1 _ hj)
     rw [ih _ hlt (by omega)]; rfl
   rw [h] at hm
   cases hm
end
end Go.AB
namespace Go.AB
open Go Go.RowKit
variable {ρ : Option Nat}
section
variable {P : Program} {ops : Array Oper} {Q : Exit → Act → World → Prop} {S : World → Prop} {late : Nat → Bool}
/-- Values alone: whatever has come up. -/
theorem ugf {S2 : World → Prop} (fin : Act → World → Prop) (fuel : Nat) (hs : Region.noSelect ops = true) (hQ : ∀ (o : Option Tmp) (v : Value) c a w, Q (.panic c) (a.put o v) w → Q (.panic c) a w) :
  ∀ (π : List (Nat × Option Nat)) (listed : Array Bool) (a : Act) (w : World), Closed .any ops listed → mg ops late (fun _ => true) π listed = true →
   (∀ a, fin a w → io P .any ops Q S late fuel (lf π listed) a w) → gj P ops (i7 fin) S2 late (fun _ => false) (fun _ => true) π a w → io P .any ops Q S late (gg π + fuel) listed a w := by
 intro π
 induction π with
 | nil =>
  intro listed a w _ _ hf h
  have := hf a h
  simpa [gg, lf] using this
 | cons p rest ih =>
  obtain ⟨i, m⟩ := p
  intro listed a w hcl hc hf h
  cases m with
  | some j => simp [mg] at hc
  | none =>
   simp only [mg, Bool.and_eq_true] at hc
   obtain ⟨⟨⟨⟨hready, hfree⟩, hsome⟩, hlate⟩, hc2⟩ := hc
   simp only [gj, Bool.false_eq_true, if_false] at h
   cases ho : ops[i]? with
   | none => rw [ho] at hsome; cases hsome
   | some o =>
    rw [ho] at h
    obtain ⟨v, hy, hrest⟩ := h
    have hi : i ∈ Region.ready .any ops listed := by simpa using hready
    have hrec := ih _ _ _ (hcl.set hi) hc2 hf hrest
    have hp : gg ((i, none) :: rest) + fuel = gg rest + fuel + 1 := by simp only [gg]; omega
    rw [hp]
    simp only [if_true] at hy
    exact sg (depth := ops.size) (fun _ => True) ho (Region.noSelect_spec hs) (fun c a w => hQ o.dst v c a w) (.inl fun _ => trivial) (gg rest + fuel) listed a w hcl (Region.free_spec ho hfree) hi hy trivial hrec
end
section
variable (P : Program) (ol : List Oper) (K : St → Prop) (D : List Nat) (late : Nat → Bool)
/-- What is left, in whatever order; b: something late has come up. -/
def km (b : Bool) (fuel : Nat) (listed : List Bool) (st : St) : Prop :=
 ∀ (E0 : Env) (w0 : World) (Q : Act → World → Prop), (∀ a' w' st' E', Ev E0 w0 E' w' → Sim E' w' st' a' → K st' → Q a' w') →
  ∀ E1 w1 a, Ev E0 w0 E1 w1 → Sim E1 w1 st a → (b = false → ∀ n ∈ D, E1.T n = E0.T n) → io P .any ol.toArray (i7 Q) (Keeps E0 (· ∈ D) w0) late fuel listed.toArray a w1
def xe (b : Bool) (fuel : Nat) (listed : List Bool) (i : Nat) (st : St) : Prop :=
 ∃ o, ol[i]? = some o ∧ eu ol.toArray st o = some true ∧ ((b = false ∧ EStep P o st fun st' => ni D st st' ∧ km P ol K D late false fuel (listed.set i true) st') ∨ (late i = true ∧ EStep P o st (km P ol K D late true fuel (listed.set i true))))
def sd (b : Bool) (fuel : Nat) (listed : List Bool) (st : St) : List Nat → Prop
 | [] => True
 | i :: is => xe P ol K D late b fuel listed i st ∧ sd b fuel listed st is
end
section
variable {P : Program} {ol : List Oper} {K : St → Prop} {D : List Nat} {late : Nat → Bool} {b : Bool} {fuel : Nat} {listed : List Bool} {st : St} {i : Nat} {is : List Nat} {o : Oper} {c : C}
theorem r7 : sd P ol K D late b fuel listed st [] := trivial
theorem r8 (h : xe P ol K D late b fuel listed i st) (k : sd P ol K D late b fuel listed st is) : sd P ol K D late b fuel listed st (i :: is) := ⟨h, k⟩
theorem rz (hL : late i = true) (hol : ol[i]? = some o) (hg : eu ol.toArray st o = some true) {listed' : List Bool} (hl : listed.set i true = listed') (h : EStep P o st (km P ol K D late true fuel listed')) : xe P ol K D late b fuel listed i st :=
 ⟨o, hol, hg, .inr ⟨hL, by rw [hl]; exact h⟩⟩
theorem uf2 (hr : (Region.ready .any ol.toArray listed.toArray == []) = true) (h : K st) : km P ol K D late b fuel listed st := by
 intro E0 w0 Q hQ E1 w1 a hev hs _
 have hr' : Region.ready .any ol.toArray listed.toArray = [] := by simpa using hr
 have hq := hQ a w1 st E1 hev hs h
 cases fuel with
 | zero => exact ⟨hr', hq⟩
 | succ n => exact ⟨fun _ => hq, fun i hi => by rw [hr'] at hi; cases hi⟩
theorem qq (is : List Nat) (hr : (Region.ready .any ol.toArray listed.toArray == is) = true) (hne : is ≠ []) (h : sd P ol K D late b fuel listed st is) : km P ol K D late b (fuel + 1) listed st := by
 intro E0 w0 Q hQ E1 w1 a hev hs hb
 have hr' : Region.ready .any ol.toArray listed.toArray = is := by simpa using hr
 refine ⟨fun e => absurd (hr'.symm.trans e) hne, fun i hi => ?_⟩
 rw [hr'] at hi
 have hi' : xe P ol K D late b fuel listed i st := by
  clear hr hr' hne
  induction is with
  | nil => cases hi
  | cons j is ih =>
   rcases List.mem_cons.1 hi with rfl | hi
   ·exact h.1
   ·exact ih h.2 hi
 obtain ⟨o, hol, hg, hcase⟩ := hi'
 have ho : ol.toArray[i]? = some o := by simpa using hol
 have hset : listed.toArray.setIfInBounds i true = (listed.set i true).toArray := by simp
 refine wpOp_step ho fun Kr hK => ?_
 rw [if_pos (ld hg hs)]
 rcases hcase with ⟨rfl, h1⟩ | ⟨hL, h1⟩
 ·refine h1 E1 w1 a hs Kr _ fun a' w' st' E' q1 q2 q3 => ?_
  have hk := wb hs q1 q2 q3.1
  refine hK a' w' ⟨.inr fun hS => ⟨fun b j hj => (q1.cell b j (Nat.lt_of_lt_of_le hj (hev.L b))).trans (hS.1 b j hj), fun n hn ver wv val b ht hb' => ?_⟩, ?_⟩
  ·have := hb rfl n hn
   exact ((hk n hn).2 ver wv val b (this.trans ht) hb').trans (hS.2 n hn ver wv val b ht hb')
  ·rw [hset]
   exact q3.2 E0 w0 Q hQ E' w' a' (hev.trans q1) q2 fun e n hn => (hk n hn).1.trans (hb rfl n hn)
 ·refine h1 E1 w1 a hs Kr _ fun a' w' st' E' q1 q2 q3 => ?_
  refine hK a' w' ⟨.inl hL, ?_⟩
  rw [hset]
  exact q3 E0 w0 Q hQ E' w' a' (hev.trans q1) q2 fun e => by cases e
theorem r9 {total : Nat} (π : List (Nat × Option Nat)) (fuel : Nat) (listed' : List Bool)
  (hchk : (zy ol.toArray listed.toArray && (Region.noSelect ol.toArray && (mg ol.toArray late (fun _ => true) π listed.toArray && ((lf π listed.toArray).toList == listed' && total == gg π + fuel)))) = true)
  (h : jh P ol.toArray (fun st' => ni D st st' ∧ km P ol K D late b fuel listed' st') [] late (fun _ => false) (fun _ => true) π st) : km P ol K D late b total listed st := by
 simp only [Bool.and_eq_true, beq_iff_eq] at hchk
 obtain ⟨h0, h1, h2, h3, h4⟩ := hchk
 subst h4
 intro E0 w0 Q hQ E1 w1 a hev hs hb
 have hend : lf π listed.toArray = listed'.toArray := by rw [← h3]
 refine ugf (S2 := Keeps E1 (· ∈ ([] : List Nat)) w1) (fun a' w' => io P .any ol.toArray (i7 Q) (Keeps E0 (· ∈ D) w0) late fuel listed'.toArray a' w') fuel h1 (fun _ _ _ _ _ h => h) π _ a w1 (ue7 h0) h2 (fun a' h' => by rw [hend]; exact h') ?_
 exact h E1 w1 _ (fun a' w' st' E' q1 q2 q3 => q3.2 E0 w0 Q hQ E' w' a' (hev.trans q1) q2 fun e n hn => ((wb hs q1 q2 q3.1) n hn).1.trans (hb e n hn)) a hs
theorem ufr {id : Nat} {l : List Oper} {Q : Exit → St → Prop} (π : List (Nat × Option Nat)) (late N : Nat → Bool) (fuel : Nat) (listed : List Bool) (D : List Nat) (hm : P.follows .mixedOrders = true)
  (hchk : (re l && (Region.noSelect l.toArray && (mg l.toArray late N π (Array.replicate l.toArray.size false) && ((lf π (Array.replicate l.toArray.size false)).toList == listed && gg π + fuel == l.toArray.size)))) = true)
  (h : jh P l.toArray (fun st' => ni D st st' ∧ km P l (Q .normal) D late false fuel listed st') D late (fun _ => false) N π st) : AW ρ P (.region id l.toArray true) Q st := by
 intro E w a hs
 simp only [Bool.and_eq_true, beq_iff_eq] at hchk
 obtain ⟨h0, h1, h2, h3, h4⟩ := hchk
 have hev : Ev E w E w.drew := Ev.same ((Below.refl _ _).drew) rfl
 have hend : lf π (Array.replicate l.toArray.size false) = listed.toArray := by rw [← h3]
 have key : io P .any l.toArray (i7 fun a' w' => m7 E w Q .normal a' w') (Keeps E (· ∈ D) w.drew) late (gg π + fuel) (Array.replicate l.toArray.size false) a w.drew := by
  refine xf (fun a' w' => io P .any l.toArray (i7 fun a' w' => m7 E w Q .normal a' w') (Keeps E (· ∈ D) w.drew) late fuel listed.toArray a' w') fuel h1 (fun _ _ _ _ _ h => h) π _ a w.drew ?_ h2 (Keeps.refl _ _ _) (fun a' h' => by rw [hend]; exact h') ?_
  ·intro j o _ hj
   rw [Array.getD_eq_getD_getElem?, Array.getElem?_replicate] at hj
   split at hj <;> simp at hj
  ·exact h E w.drew _ (fun a' w' st' E' q1 q2 q3 => q3.2 E w.drew _ (fun a2 w2 st2 E2 r1 r2 r3 => ⟨st2, E2, hev.trans r1, r2, r3⟩) E' w' a' q1 q2 fun _ n hn => ((wb hs.drew q1 q2 q3.1) n hn).1) a hs.drew
 rw [h4] at key
 refine iv (Q := i7 fun a' w' => m7 E w Q .normal a' w') ?_ (zx hm h0 (un _ _ _ _ key))
 intro e a' w' hq
 cases e with
 | normal => exact hq
 | _ => exact hq.elim
end
/-- Four objects that are changed. -/
theorem ua4 {g H : Nat → Option GObj} {a b c d : Nat} {oa ob oc od : GObj} (ha : H a = some oa) (hb : H b = some ob) (hc : H c = some oc) (hd : H d = some od) (h : ∀ n o, n ≠ a → n ≠ b → n ≠ c → n ≠ d → g n = some o → H n = some o) :
  ∀ n o, ak (ak (ak (ak g a oa) b ob) c oc) d od n = some o → H n = some o := by
 intro n o hn
 by_cases e1 : n = d
 ·subst e1; rw [nt] at hn; rw [hd]; exact hn
 ·rw [ip e1] at hn
  by_cases e2 : n = c
  ·subst e2; rw [nt] at hn; rw [hc]; exact hn
  ·rw [ip e2] at hn
   by_cases e3 : n = b
   ·subst e3; rw [nt] at hn; rw [hb]; exact hn
   ·rw [ip e3] at hn
    by_cases e4 : n = a
    ·subst e4; rw [nt] at hn; rw [ha]; exact hn
    ·rw [ip e4] at hn
     exact h n o e4 e3 e2 e1 hn
end Go.AB
namespace Go.AB
open Go Go.RowKit
section
variable {P : Program} {ol : List Oper} {K : St → Prop} {D : List Nat} {late : Nat → Bool}
theorem uoz (I : List Bool → St → Prop) (stop : List Bool → Bool) (hf : fwdB ol = true) (hl : ∀ l st, I l st → l.length = ol.length) (hall : ∀ l st, I l st → (∀ i, i < ol.length → l[i]? = some true) → stop l = true)
  (hs : ∀ l st i o, I l st → stop l = false → ol[i]? = some o → l[i]? = some false → (∀ j ∈ qi o, l[j]? = some true) → eu ol.toArray st o = some true ∧ EStep P o st fun st' => ni D st st' ∧ I (l.set i true) st')
  (he : ∀ l st, I l st → stop l = true → km P ol K D late false (o6 l) l st) : ∀ (fuel : Nat) (l : List Bool) (st : St), I l st → o6 l = fuel → km P ol K D late false fuel l st := by
 intro fuel
 induction fuel with
 | zero =>
  intro l st hI h0
  have hz : ∀ i, i < ol.length → l[i]? = some true := fun i hi => by
   have e := List.getElem?_eq_getElem (l := l) (i := i) (by rw [hl l st hI]; exact hi)
   cases hb : l[i]'(by rw [hl l st hI]; exact hi) with
   | true => rw [e, hb]
   | false => exact absurd (by rw [e, hb]) (uj8 h0 i)
  have := he l st hI (hall l st hI hz)
  rwa [h0] at this
 | succ fuel ih =>
  intro l st hI h0
  cases hst : stop l with
  | true =>
   have := he l st hI hst
   rwa [h0] at this
  | false =>
   cases h : Region.ready .any ol.toArray l.toArray with
   | nil => rw [hall l st hI (uix hf (hl l st hI) h)] at hst; cases hst
   | cons i is =>
    refine qq (i :: is) (by rw [h]; exact beq_self_eq_true _) (by simp) ?_
    have key : ∀ js : List Nat, (∀ j ∈ js, j ∈ Region.ready .any ol.toArray l.toArray) → sd P ol K D late false fuel l st js := by
     intro js
     induction js with
     | nil => intro _; trivial
     | cons j js ihj =>
      intro hjs
      refine ⟨?_, ihj fun k hk => hjs k (List.mem_cons_of_mem _ hk)⟩
      obtain ⟨o, ho, h2, h3⟩ := uiy (hjs j (List.mem_cons_self ..)) (hl l st hI)
      have hn : o6 (l.set j true) = fuel := by have := ym h2; omega
      obtain ⟨hg, hE⟩ := hs l st j o hI hst ho h2 h3
      exact ⟨o, ho, hg, .inl ⟨rfl, hE.mono fun st' h' => ⟨h'.1, ih _ _ h'.2 hn⟩⟩⟩
    exact key (i :: is) fun j hj => by rw [h]; exact hj
/-- A state whose slots stand in another order. -/
theorem uoy {b : Bool} {fuel : Nat} {listed : List Bool} {st st' : St} (hn : st.n = st'.n) (hd : st.df = st'.df) (hA : ∀ i, cp st.l st.r i = cp st'.l st'.r i) (hG : st.G = st'.G) (hx : st.nx = st'.nx) (h : km P ol K D late b fuel listed st') : km P ol K D late b fuel listed st := by
 intro E0 w0 Q hQ E1 w1 a hev hs hb
 refine h E0 w0 Q hQ E1 w1 a hev ⟨hd ▸ hs.d, hn ▸ hs.sz, fun i v hv => ?_, ?_⟩ hb
 ·have := hs.t i v hv
  rwa [hA] at this
 ·have := hs.g
  rwa [hG, hx] at this
end
theorem qw {st st' : St} {n : Nat} {o : GObj} (h1 : st.G n = some o) (h2 : st'.G n = some o) : ni [n] st st' := ubk h1 h2 rfl ubj
/-- whether an operation waits for another one -/
def pj (ol : List Oper) (i j : Nat) : Bool := ((ol[i]?).map fun o => (qi o).contains j).getD false
theorem rp {ol : List Oper} {i j : Nat} {o : Oper} (h : pj ol i j = true) (ho : ol[i]? = some o) : j ∈ qi o := by
 unfold pj at h
 rw [ho] at h
 simpa using h
/-- the slots, when so much came up: builds and appends of three lists -/
def adS (A0 : Nat → C) (c8 c9 c15 c16 c22 c23 : C) (b8 b9 b15 b16 b22 b23 : Bool) (i : Nat) : C :=
 bif b8 && Nat.beq 109 i then c8 else bif b9 && Nat.beq 110 i then c9 else bif b15 && Nat.beq 116 i then c15 else bif b16 && Nat.beq 117 i then c16 else bif b22 && Nat.beq 123 i then c22 else bif b23 && Nat.beq 124 i then c23 else A0 i
def adG (G0 G1 G2 G3 : Nat → Option GObj) (b9 b16 b23 : Bool) : Nat → Option GObj := bif b23 then G3 else bif b16 then G2 else bif b9 then G1 else G0
structure AdI (A0 : Nat → C) (c8 c9 c15 c16 c22 c23 : C) (G0 G1 G2 G3 : Nat → Option GObj) (nn df nx : Nat) (b8 b9 b15 b16 b22 b23 : Bool) (st : St) : Prop where
 n : st.n = nn
 df : st.df = df
 nx : st.nx = nx
 A : ∀ i, cp st.l st.r i = adS A0 c8 c9 c15 c16 c22 c23 b8 b9 b15 b16 b22 b23 i
 G : st.G = adG G0 G1 G2 G3 b9 b16 b23
 e9 : b9 = true → b8 = true
 e16 : b16 = true → b15 = true ∧ b9 = true
 e23 : b23 = true → b22 = true ∧ b16 = true
theorem j5 {a b i : Nat} (h : Nat.beq a i = true) (hab : Nat.beq a b = false) : Nat.beq b i = false := by
 have := Nat.eq_of_beq_eq_true h
 subst this
 cases e : Nat.beq b a
 ·rfl
 ·have := Nat.eq_of_beq_eq_true e
  subst this
  rw [Nat.beq_refl] at hab; cases hab
end Go.AB
