/-
 Charts in plain words: the words that are there, in order; the nearest ones.
-/
import Derived.Test.YtjjklfgpffgnfaaGreatDoorEaPlain
import Derived.Test.YtjjklfgpffgnfaaGreatDoorEgComp
namespace Go.AB
open Go Go.RowKit
open Go.AB.Enc (cells)
open Go.PB (bv ai PlaceD cy c6 cz)
/-- so many words of a line -/
def iu (p : L2) (k : Nat) : List PlaceD := (List.range k).map fun (i : Nat) => ⟨p.1, p.2, (i : Int)⟩
theorem uho (p : L2) (k : Nat) : iu p (k + 1) = iu p k ++ [⟨p.1, p.2, (k : Int)⟩] := by simp [iu, List.range_succ]
theorem s8 (p : L2) (k : Nat) : (iu p k).length = k := by simp [iu]
def kj (t : ai) (f : L2 → Option L2) (p : L2) : List PlaceD := bif (f p).isSome then iu p ((fq t p).getD []).length else []
def jg (t : ai) (f : L2 → Option L2) (l : List L2) : List PlaceD := (l.map (kj t f)).flatten
theorem udt (t : ai) (f : L2 → Option L2) (l : List L2) (p : L2) : jg t f (l ++ [p]) = jg t f l ++ kj t f p := by simp [jg]
def fw (t : ai) (f : L2 → Option L2) : List PlaceD := jg t f (d9 t)
theorem uhn {t : ai} (ht : ct t = true) (f : L2 → Option L2) (p : L2) : (kj t f p).length ≤ 10 := by
 unfold kj
 cases (f p).isSome
 ·exact Nat.zero_le _
 ·rw [cond_true, s8]
  cases h : fq t p with
  | none => exact Nat.zero_le _
  | some l => have := od ht h; simp only [Option.getD_some]; omega
theorem uf {t : ai} (ht : ct t = true) (f : L2 → Option L2) (l : List L2) : (jg t f l).length ≤ 10 * l.length := by
 induction l with
 | nil => exact Nat.zero_le _
 | cons p l ih =>
  have h1 := uhn ht f p
  have : (jg t f (p :: l)).length = (kj t f p).length + (jg t f l).length := by simp [jg]
  rw [this, List.length_cons]
  omega
theorem mem_words {t : ai} {f : L2 → Option L2} {q : PlaceD} : q ∈ fw t f ↔ gp t q = true ∧ (f (q.ch, q.ln)).isSome = true := by
 unfold fw jg
 rw [List.mem_flatten]
 constructor
 ·rintro ⟨l, hl, hq⟩
  obtain ⟨p, hp, rfl⟩ := List.mem_map.1 hl
  obtain ⟨ws, hw⟩ := mem_lines.1 hp
  unfold kj at hq
  cases hf : (f p).isSome with
  | false => rw [hf] at hq; simp at hq
  | true =>
   rw [hf, cond_true, hw, Option.getD_some] at hq
   obtain ⟨i, hi, rfl⟩ := List.mem_map.1 hq
   rw [List.mem_range] at hi
   exact ⟨placeB_true.2 ⟨ws, hw, by dsimp only; omega, by dsimp only; omega⟩, hf⟩
 ·rintro ⟨h1, h2⟩
  obtain ⟨ws, hw, h3, h4⟩ := placeB_true.1 h1
  refine ⟨_, List.mem_map.2 ⟨(q.ch, q.ln), mem_lines.2 ⟨ws, hw⟩, rfl⟩, ?_⟩
  unfold kj
  rw [h2, cond_true, hw, Option.getD_some]
  refine List.mem_map.2 ⟨q.wd.toNat, List.mem_range.2 (by omega), ?_⟩
  have : ((q.wd.toNat : Nat) : Int) = q.wd := by omega
  rw [this]
/-- the numbers of a place -/
def ig (q : PlaceD) : List Int := [q.ch, q.ln, q.wd]
theorem ua3 {a b : PlaceD} (h : ig a = ig b) : a = b := by
 obtain ⟨a1, a2, a3⟩ := a
 obtain ⟨b1, b2, b3⟩ := b
 simp only [ig, List.cons.injEq, and_true] at h
 obtain ⟨rfl, rfl, rfl⟩ := h
 rfl
theorem nd : ∀ a : List Int, ¬ ltW a a
 | [] => by simp [ltW]
 | x :: a => by simp only [ltW]; rintro (h | ⟨_, h⟩); omega; exact nd a h
theorem n2 : ∀ {a b c : List Int}, ltW a b → ltW b c → ltW a c
 | [], _, _, h, _ => by simp [ltW] at h
 | _ :: _, [], _, h, _ => by simp [ltW] at h
 | _ :: _, _ :: _, [], _, k => by simp [ltW] at k
 | x :: a, y :: b, z :: c, h, k => by
  simp only [ltW] at h k ⊢
  rcases h with h | ⟨h1, h2⟩
  ·rcases k with k | ⟨k1, _⟩
   ·exact .inl (by omega)
   ·exact .inl (by omega)
  ·rcases k with k | ⟨k1, k2⟩
   ·exact .inl (by omega)
   ·exact .inr ⟨by omega, n2 h2 k2⟩
theorem p3 : ∀ {a b : List Int}, a.length = b.length → ¬ ltW a b → ¬ ltW b a → a = b
 | [], [], _, _, _ => rfl
 | x :: a, y :: b, hl, h, k => by
  simp only [ltW, not_or, not_and] at h k
  have hxy : x = y := by omega
  subst hxy
  rw [p3 (by simpa using hl) (h.2 rfl) (k.2 rfl)]
/-! ### What is next to something -/
structure IsLo (S : List PlaceD) (key : PlaceD → List Int) (x : List Int) (a : Option PlaceD) : Prop where
 none : a = Option.none → ∀ y ∈ S, ¬ ltW (key y) x
 some : ∀ y, a = Option.some y → y ∈ S ∧ ltW (key y) x ∧ ∀ z ∈ S, ltW (key z) x → ¬ ltW (key y) (key z)
structure IsHi (S : List PlaceD) (key : PlaceD → List Int) (x : List Int) (a : Option PlaceD) : Prop where
 none : a = Option.none → ∀ y ∈ S, ¬ ltW x (key y)
 some : ∀ y, a = Option.some y → y ∈ S ∧ ltW x (key y) ∧ ∀ z ∈ S, ltW x (key z) → ¬ ltW (key z) (key y)
def NearOk (S : List PlaceD) (key : PlaceD → List Int) (x : List Int) (L : List PlaceD) : Prop := ∃ a b, L = a.toList ++ b.toList ∧ IsLo S key x a ∧ IsHi S key x b
structure pj (S : List PlaceD) (key : PlaceD → List Int) (n : Nat) : Prop where
 len : ∀ y ∈ S, (key y).length = n
 inj : ∀ a ∈ S, ∀ b ∈ S, key a = key b → a = b
theorem IsLo.uniq {S : List PlaceD} {key : PlaceD → List Int} {x : List Int} {a b : Option PlaceD} {n : Nat} (hk : pj S key n) (h : IsLo S key x a) (k : IsLo S key x b) : a = b := by
 cases a with
 | none =>
  cases b with
  | none => rfl
  | some y => obtain ⟨h1, h2, _⟩ := k.some y rfl; exact absurd h2 (h.none rfl y h1)
 | some z =>
  obtain ⟨h1, h2, h3⟩ := h.some z rfl
  cases b with
  | none => exact absurd h2 (k.none rfl z h1)
  | some y =>
   obtain ⟨k1, k2, k3⟩ := k.some y rfl
   rw [hk.inj z h1 y k1 (p3 ((hk.len z h1).trans (hk.len y k1).symm) (h3 y k1 k2) (k3 z h1 h2))]
theorem IsHi.uniq {S : List PlaceD} {key : PlaceD → List Int} {x : List Int} {a b : Option PlaceD} {n : Nat} (hk : pj S key n) (h : IsHi S key x a) (k : IsHi S key x b) : a = b := by
 cases a with
 | none =>
  cases b with
  | none => rfl
  | some y => obtain ⟨h1, h2, _⟩ := k.some y rfl; exact absurd h2 (h.none rfl y h1)
 | some z =>
  obtain ⟨h1, h2, h3⟩ := h.some z rfl
  cases b with
  | none => exact absurd h2 (k.none rfl z h1)
  | some y =>
   obtain ⟨k1, k2, k3⟩ := k.some y rfl
   rw [hk.inj z h1 y k1 (p3 ((hk.len z h1).trans (hk.len y k1).symm) (k3 z h1 h2) (h3 y k1 k2))]
theorem NearOk.uniq {S : List PlaceD} {key : PlaceD → List Int} {x : List Int} {L M : List PlaceD} {n : Nat} (hk : pj S key n) (h : NearOk S key x L) (k : NearOk S key x M) : L = M := by
 obtain ⟨a, b, rfl, h1, h2⟩ := h
 obtain ⟨c, d, rfl, k1, k2⟩ := k
 rw [h1.uniq hk k1, h2.uniq hk k2]
theorem NearOk.congr {S S' : List PlaceD} {key : PlaceD → List Int} {x : List Int} {L : List PlaceD} (h : NearOk S key x L) (he : ∀ y, y ∈ S ↔ y ∈ S') : NearOk S' key x L := by
 obtain ⟨a, b, e, h1, h2⟩ := h
 exact ⟨a, b, e, ⟨fun e y hy => h1.none e y ((he y).2 hy), fun y e => let ⟨q1, q2, q3⟩ := h1.some y e; ⟨(he y).1 q1, q2, fun z hz => q3 z ((he z).2 hz)⟩⟩, ⟨fun e y hy => h2.none e y ((he y).2 hy), fun y e => let ⟨q1, q2, q3⟩ := h2.some y e; ⟨(he y).1 q1, q2, fun z hz => q3 z ((he z).2 hz)⟩⟩⟩
open Classical in
noncomputable def su (S : List PlaceD) (key : PlaceD → List Int) (x : List Int) : List PlaceD := if h : ∃ L, NearOk S key x L then h.choose else []
theorem z6 {S : List PlaceD} {key : PlaceD → List Int} {x : List Int} {L : List PlaceD} {n : Nat} (hk : pj S key n) (h : NearOk S key x L) : su S key x = L := by
 unfold su
 rw [dif_pos ⟨L, h⟩]
 exact NearOk.uniq hk (Exists.choose_spec (p := NearOk S key x) ⟨L, h⟩) h
/-- as the program finds them, in a list in order -/
def k8 (l : List PlaceD) (k : Nat) : List PlaceD := (l.take (min l.length (k + 1))).drop (k - 1)
theorem ul2 (l : List PlaceD) {k : Nat} (hk : k ≤ l.length) : k8 l k = (if k = 0 then none else l[k - 1]?).toList ++ (l[k]?).toList := by
 unfold k8
 apply List.ext_getElem?
 intro i
 rw [List.getElem?_drop, List.getElem?_take]
 by_cases h0 : k = 0
 ·subst h0
  simp only [if_pos, Option.toList_none, List.nil_append]
  cases h : l[0]? with
  | none =>
   have : l.length = 0 := by rw [List.getElem?_eq_none_iff] at h; omega
   simp [this]
  | some x =>
   have := (List.getElem?_eq_some_iff.1 h).1
   match i with
   | 0 => rw [if_pos (by omega)]; simp [h]
   | i + 1 => rw [if_neg (by omega)]; simp
 ·rw [if_neg h0]
  obtain ⟨x, hx⟩ : ∃ x, l[k - 1]? = some x := ⟨_, List.getElem?_eq_getElem (by omega)⟩
  rw [hx]
  match i with
  | 0 => rw [if_pos (by omega)]; simp [hx]
  | 1 =>
   rw [show k - 1 + 1 = k by omega]
   cases h : l[k]? with
   | none => rw [List.getElem?_eq_none_iff] at h; rw [if_neg (by omega)]; simp
   | some y => have := (List.getElem?_eq_some_iff.1 h).1; rw [if_pos (by omega)]; simp
  | i + 2 =>
   rw [if_neg (by omega)]
   cases h : l[k]? <;> simp
theorem ul0 {l : List PlaceD} {key : PlaceD → List Int} {x : List Int} {k n : Nat} (hn : x.length = n) (hlen : ∀ y ∈ l, (key y).length = n) (hs : l.Pairwise fun a b => ltW (key a) (key b)) (hne : ∀ y ∈ l, key y ≠ x) (hk : k ≤ l.length)
  (h1 : ∀ y ∈ l.take k, ¬ ltW x (key y)) (h2 : ∀ y, l[k]? = some y → ltW x (key y)) : NearOk l key x (k8 l k) := by
 have hlt : ∀ y ∈ l.take k, ltW (key y) x := fun y hy => by
  have hm := List.mem_of_mem_take hy
  exact Classical.byContradiction fun h => hne y hm (p3 ((hlen y hm).trans hn.symm) h (h1 y hy))
 have hgt : ∀ (j : Nat) (y : PlaceD), k ≤ j → l[j]? = some y → ltW x (key y) := fun j y hj hy => by
  obtain ⟨j1, j2⟩ := List.getElem?_eq_some_iff.1 hy
  obtain ⟨z, hz⟩ : ∃ z, l[k]? = some z := ⟨_, List.getElem?_eq_getElem (by omega)⟩
  obtain ⟨z1, z2⟩ := List.getElem?_eq_some_iff.1 hz
  rcases Nat.eq_or_lt_of_le hj with e | e
  ·subst e; exact h2 y hy
  ·have := List.pairwise_iff_getElem.1 hs k j z1 j1 e
   rw [z2, j2] at this
   exact n2 (h2 z hz) this
 refine ⟨_, _, ul2 l hk, ⟨fun hn y hy hl => ?_, fun y hy => ?_⟩, ⟨fun hn y hy hl => ?_, fun y hy => ⟨List.mem_of_getElem? hy, h2 y hy, fun z hz hxz hzy => ?_⟩⟩⟩
 ·have h0 : k = 0 := by
   by_cases h : k = 0
   ·exact h
   ·rw [if_neg h, List.getElem?_eq_none_iff] at hn; omega
  obtain ⟨j, hj⟩ := List.getElem?_of_mem hy
  exact nd _ (n2 hl (hgt j y (by omega) hj))
 ·have h0 : k ≠ 0 := fun h => by rw [if_pos h] at hy; cases hy
  rw [if_neg h0] at hy
  have hyt : y ∈ l.take k := List.mem_of_getElem? (i := k - 1) (by rw [List.getElem?_take_of_lt (by omega)]; exact hy)
  refine ⟨List.mem_of_getElem? hy, hlt y hyt, fun z hz hzx hyz => ?_⟩
  obtain ⟨j, hj⟩ := List.getElem?_of_mem hz
  obtain ⟨j1, j2⟩ := List.getElem?_eq_some_iff.1 hj
  obtain ⟨y1, y2⟩ := List.getElem?_eq_some_iff.1 hy
  by_cases hjk : k ≤ j
  ·exact nd _ (n2 hzx (hgt j z hjk hj))
  ·rcases Nat.lt_or_ge j (k - 1) with e | e
   ·have := List.pairwise_iff_getElem.1 hs j (k - 1) j1 y1 e
    rw [j2, y2] at this
    exact nd _ (n2 this hyz)
   ·have : j = k - 1 := by omega
    subst this
    rw [hy] at hj
    cases hj
    exact nd _ hyz
 ·obtain ⟨j, hj⟩ := List.getElem?_of_mem hy
  rw [List.getElem?_eq_none_iff] at hn
  have hj1 := (List.getElem?_eq_some_iff.1 hj).1
  have : y ∈ l.take k := List.mem_of_getElem? (i := j) (by rw [List.getElem?_take_of_lt (by omega)]; exact hj)
  exact h1 y this hl
 ·obtain ⟨j, hj⟩ := List.getElem?_of_mem hz
  obtain ⟨j1, j2⟩ := List.getElem?_eq_some_iff.1 hj
  obtain ⟨y1, y2⟩ := List.getElem?_eq_some_iff.1 hy
  rcases Nat.lt_trichotomy j k with e | e | e
  ·have : z ∈ l.take k := List.mem_of_getElem? (i := j) (by rw [List.getElem?_take_of_lt e]; exact hj)
   exact h1 z this hxz
  ·subst e
   rw [hy] at hj
   cases hj
   exact nd _ hzy
  ·have := List.pairwise_iff_getElem.1 hs k j y1 j1 e
   rw [y2, j2] at this
   exact nd _ (n2 this hzy)
end Go.AB
