/-
  What the walks through the program rest on: values, states, steps, calls (LaRef, PaFlow, PbData, PcWorst, PdPlain, PeSets, PfPlain, PgSides, PhApart, PiWhy, PjWhy, PsExamples, PpAdd, PlTruth, PqRest, AbTwin, AbCut, RaStd, OpenE, AbRem, AbBits, QaRef, QbRef, QcRef, RbSides, QdRef, QeRef, KxBefore, QfRef, QgRef, QhRef, QiRef, QjRef, QkRef, PmMore, QlPlain, AbZero, AbGrow, AbCutN, QmRef).
-/
import Derived.Test.YtbbdginipiljdaaGreatDoorPartB
import Derived.Lib.Hide
import Derived.Shelf.SlicesE.DeleteFunc
import Derived.Deep.Slices
import Derived.Lib.SmallJoins
import Derived.Carry
import Derived.ProofKit
import Derived.OpenShut
namespace Go.AB
open Go Go.RowKit
open Go.AB.Enc (cells)
open Go.PB (ba ai PlaceD bh bk bj)
def dn (t : ai) : List PlaceD := (je t).map (·.1)
def gu (t : ai) (k : Nat) (ls : List (List ByteArray)) (n : Nat) : List PlaceD := dn (t.take k) ++ (lv k (ls.take n)).map (·.1)
def lw (t : ai) (k : Nat) (ls : List (List ByteArray)) (n : Nat) (l : List ByteArray) (w : Nat) : List PlaceD := gu t k ls n ++ (jx k n (l.take w)).map (·.1)
theorem ufa (t : ai) (k : Nat) (ls : List (List ByteArray)) : dn (t.take k) = gu t k ls 0 := by simp [gu, lv]
theorem ue8 (t : ai) (k : Nat) (ls : List (List ByteArray)) (n : Nat) (l : List ByteArray) : gu t k ls n = lw t k ls n l 0 := by simp [lw, jx]
theorem ufb {t : ai} {k n : Nat} {c : ba} (hk : t[k]? = some c) (hn : c.lines.length ≤ n) : gu t k c.lines n = dn (t.take (k + 1)) := by
 unfold gu dn
 rw [List.take_of_length_le hn, ufc hk, List.map_append]
theorem unx {t : ai} {k n w : Nat} {ls : List (List ByteArray)} {l : List ByteArray} (hn : ls[n]? = some l) (hw : l.length ≤ w) : lw t k ls n l w = gu t k ls (n + 1) := by
 unfold lw gu
 rw [List.take_of_length_le hw, zf k hn, List.map_append, List.append_assoc]
theorem unw {t : ai} {k n w : Nat} {ls : List (List ByteArray)} {l : List ByteArray} (hw : w < l.length) : lw t k ls n l w ++ [(⟨k, n, w⟩ : PlaceD)] = lw t k ls n l (w + 1) := by
 unfold lw
 rw [uk1 k n (List.getElem?_eq_getElem hw), List.map_append, List.append_assoc]; rfl
theorem lg {t : ai} (ht : dr t = true) : (dn t).length ≤ 600 := by rw [dn, List.length_map]; exact ufd ht
theorem ue9 {t : ai} (ht : dr t = true) {k n : Nat} {c : ba} {l : List ByteArray} (hk : t[k]? = some c) (hn : c.lines[n]? = some l) (w : Nat) : (lw t k c.lines n l w).length ≤ 600 := by
 have h1 := (ugh hk hn w).length_le
 have h2 := ufd ht
 simp only [List.length_append] at h1
 simp only [lw, gu, dn, List.length_append, List.length_map]
 omega
theorem ubj {t : ai} {p : PlaceD} (hp : fp t p = true) : ∃ (k n w : Nat) (c : ba) (l : List ByteArray), p = ⟨k, n, w⟩ ∧ t[k]? = some c ∧ c.lines[n]? = some l ∧ l[w]? = some (rn t p) := by
 obtain ⟨l, hw, h1, h2⟩ := placeB_true.1 hp
 obtain ⟨k, n, c, hkn, hk, hn⟩ := rm hw
 refine ⟨k, n, p.wd.toNat, c, l, ?_, hk, hn, ?_⟩
 ·have e1 : p.ch = (k : Int) := congrArg Prod.fst hkn
  have e2 : p.ln = (n : Int) := congrArg Prod.snd hkn
  obtain ⟨a, b, d⟩ := p
  dsimp only at e1 e2 h1 ⊢
  subst e1; subst e2
  rw [Int.toNat_of_nonneg h1]
 unfold rn
 rw [hw, Option.getD_some, List.getElem?_eq_getElem (by omega)]
 rfl
theorem ufe {t : ai} {k : Nat} {x : PW} (hx : (je t)[k]? = some x) : fp t x.1 = true ∧ rn t x.1 = x.2 := by
 have hm := List.mem_of_getElem? hx
 exact ⟨allP_mem.1 (List.mem_map.2 ⟨x, hm, rfl⟩), uny hm⟩
theorem ye {α : Type} {l : List α} {k : Nat} {x : α} {p : α → Prop} (hx : l[k]? = some x) (hp : p x) (h : ∀ y ∈ l.take k, p y) : ∀ y ∈ l.take (k + 1), p y := fun y hy => by
 rw [List.take_add_one, hx] at hy
 simp only [Option.toList_some, List.mem_append, List.mem_singleton] at hy
 rcases hy with hy | rfl
 ·exact h y hy
 exact hp
/-! ### A word in its place -/
end Go.AB
namespace Go.Proofs.YtbbdginipiljdaaGreatDoor
set_option maxRecDepth 10000
open Go.RowKit Go.AB
open Go.AB.Enc (cells)
open Go.PB (ba ai PlaceD bh bk bj)
theorem ua8 (t : ai) (ht : dr t = true) : Pure Tryz.prog 24 [ig t] (lst (dn t)) := by
 refine c4 Tryz.func24 rfl (fun m => (b9 _ _)) fun G nx => ?_
 simp only [Tryz.ntmps24, List.length_cons, List.length_nil, Nat.reduceAdd, Nat.reduceSub]
 refine bx fun hlt => ?_
 dsimp only at hlt
 obtain ⟨hl1, hl2, hl3⟩ := ko ht
 refine yS fun _ K1 => ?_
 refine yR ?_
 try dsimp only [St.put]
 refine yB rfl rfl rfl ?_
 refine yA rfl rfl ?_
 refine yN ?_
 dsimp only [St.put]
 refine K1 _ ?_
 refine yS fun _ K2 => ?_
 refine yR ?_
 refine yA rfl rfl ?_
 refine yN ?_
 dsimp only [St.put]
 refine K2 _ ?_
 refine na 3 61 3 rfl (by decide) ?_
 dsimp only [List.set_cons_zero, List.set_cons_succ]
 refine yS fun _ K3 => ?_
 refine yS fun _ K4 => ?_
 refine yR ?_
 refine yA rfl rfl ?_
 refine yN ?_
 dsimp only [St.put]
 refine K4 _ ?_
 refine bf ?_
 refine co 7 ?_
 refine zQ ?_
 refine c7 (am G nx (.tip 0 61 3)) zX ?_
 dsimp only
 refine c6 (X := Nat) (fun k => k ≤ t.length) (fun k => t.length - k) (fun k => [(3, .list ((dn (t.take k)).map cells) (.tip nx)), (4, .v (.int .i64 (k : Int))), (5, .any), (6, .any)]) (fun k G' => (am G nx (.tip ((dn (t.take k))).length 61 3))) 0 rfl ?_ ?_ ?_ ?_ ?_ ?_
 ·exact Nat.zero_le _
 ·exact zF
 ·exact zX
 ·rintro k hI
  exact zL
 ·rintro k hI
  exact zH
 rintro k hI
 dsimp only at hI ⊢
 refine yS fun _ K5 => ?_
 refine yS fun _ K6 => ?_
 refine yR ?_
 refine yM rfl rfl ?_
 refine yF rfl rfl rfl rfl ?_
 refine yL rfl rfl rfl ?_
 refine aa rfl (bi rfl rfl (List.length_map _)) ?_
 refine aa rfl (cn rfl rfl rfl) ?_
 refine yN ?_
 dsimp only [St.put]
 refine K6 _ ?_
 refine aq rfl (fun hc => ?_) (fun hc => ?_)
 ·replace hc := of_decide_eq_true hc
  obtain ⟨c, hk⟩ : ∃ x, t[k]? = some x := da (by omega)
  have hcl := hl3 c (f5 hk)
  refine ay ?_
  refine K5 _ ?_
  refine yS fun _ K7 => ?_
  refine bf ?_
  refine yS fun _ K8 => ?_
  refine yR ?_
  refine yA rfl rfl ?_
  refine yN ?_
  dsimp only [St.put]
  rw [ufa t k c.lines]
  refine K8 _ ?_
  refine bf ?_
  refine co 7 ?_
  refine zQ ?_
  refine c7 ((am G nx (.tip ((gu t k c.lines 0)).length 61 3))) zX ?_
  dsimp only
  refine c6 (X := Nat) (fun n => n ≤ c.lines.length) (fun n => c.lines.length - n) (fun n => [(3, .list ((gu t k c.lines n).map cells) (.tip nx)), (5, .v (.int .i64 (n : Int))), (6, .any)]) (fun n G' => (am G nx (.tip ((gu t k c.lines n)).length 61 3))) 0 rfl ?_ ?_ ?_ ?_ ?_ ?_
  ·exact Nat.zero_le _
  ·exact zF
  ·exact zX
  ·rintro n hI
   exact zL
  ·rintro n hI
   exact zH
  rintro n hJ
  dsimp only at hJ ⊢
  refine yS fun _ K9 => ?_
  refine yS fun _ K10 => ?_
  refine yR ?_
  refine yM rfl rfl ?_
  refine yF rfl rfl rfl rfl ?_
  refine yL rfl rfl rfl ?_
  refine yM rfl rfl ?_
  refine aa rfl (br rfl rfl rfl rfl (bq (by assumption)) (Enc.len _)) ?_
  refine yF rfl rfl rfl rfl ?_
  refine yL rfl rfl rfl ?_
  refine aa rfl (bi rfl rfl (List.length_map _)) ?_
  refine aa rfl (cn rfl rfl rfl) ?_
  refine yN ?_
  dsimp only [St.put]
  refine K10 _ ?_
  refine aq rfl (fun hc => ?_) (fun hc => ?_)
  ·replace hc := of_decide_eq_true hc
   obtain ⟨l, hn⟩ : ∃ x, c.lines[n]? = some x := da (by omega)
   have hll := hcl.2.2 l (f5 hn)
   refine ay ?_
   refine K9 _ ?_
   refine yS fun _ K11 => ?_
   refine bf ?_
   refine yS fun _ K12 => ?_
   refine yR ?_
   refine yA rfl rfl ?_
   refine yN ?_
   dsimp only [St.put]
   rw [ue8 t k c.lines n l]
   refine K12 _ ?_
   refine bf ?_
   refine co 7 ?_
   refine zQ ?_
   refine c7 ((am G nx (.tip ((lw t k c.lines n l 0)).length 61 3))) zX ?_
   dsimp only
   refine c6 (X := Nat) (fun w => w ≤ l.length) (fun w => l.length - w) (fun w => [(3, .list ((lw t k c.lines n l w).map cells) (.tip nx)), (6, .v (.int .i64 (w : Int)))]) (fun w G' => (am G nx (.tip ((lw t k c.lines n l w)).length 61 3))) 0 rfl ?_ ?_ ?_ ?_ ?_ ?_
   ·exact Nat.zero_le _
   ·exact zF
   ·exact zX
   ·rintro w hI
    exact zL
   ·rintro w hI
    exact zH
   rintro w hW
   dsimp only at hW ⊢
   refine yS fun _ K13 => ?_
   refine yS fun _ K14 => ?_
   refine yR ?_
   refine yM rfl rfl ?_
   refine yF rfl rfl rfl rfl ?_
   refine yL rfl rfl rfl ?_
   refine yM rfl rfl ?_
   refine aa rfl (br rfl rfl rfl rfl (bq (by assumption)) (Enc.len _)) ?_
   refine yF rfl rfl rfl rfl ?_
   refine yL rfl rfl rfl ?_
   refine yM rfl rfl ?_
   refine aa rfl (br rfl rfl rfl rfl (bq (by assumption)) (Enc.len _)) ?_
   refine yL rfl rfl rfl ?_
   refine aa rfl (bi rfl rfl (List.length_map _)) ?_
   refine aa rfl (cn rfl rfl rfl) ?_
   refine yN ?_
   dsimp only [St.put]
   refine K14 _ ?_
   refine aq rfl (fun hc => ?_) (fun hc => ?_)
   ·replace hc := of_decide_eq_true hc
    have hlen := ue9 ht hk hn w
    refine ay ?_
    refine K13 _ ?_
    refine yS fun _ K15 => ?_
    refine bf ?_
    refine yR ?_
    refine yM rfl rfl ?_
    refine yM rfl rfl ?_
    refine yM rfl rfl ?_
    refine yM rfl rfl ?_
    refine aa rfl (ij rfl rfl) ?_
    try dsimp only [St.put]
    refine af rfl (ca rfl rfl rfl (by decide) (by decide) zR (by decide) ?_)
    try dsimp only [St.put]
    refine af rfl (ce ([(⟨k, n, w⟩ : PlaceD)]) rfl rfl zG zE rfl rfl zA ?_ zA)
    refine yA rfl rfl ?_
    refine yN ?_
    dsimp only [St.put]
    refine K15 _ ?_
    refine yR ?_
    refine yM rfl rfl ?_
    refine aa rfl (bu rfl rfl rfl (by omega)) ?_
    refine yA rfl rfl ?_
    refine yN ?_
    dsimp only [St.put]
    rw [unw (w := w) (by omega)]
    exact ⟨w + 1, by omega, by omega, ⟨⟨rfl, rfl⟩, zF, zB, zN, zX⟩⟩
   try replace hc := of_decide_eq_false hc
   refine cz ?_
   refine K11 _ ?_
   refine yR ?_
   refine yM rfl rfl ?_
   refine aa rfl (bu rfl rfl rfl (by omega)) ?_
   refine yA rfl rfl ?_
   refine yN ?_
   dsimp only [St.put]
   rw [unx (k := k) (w := w) hn (by omega)]
   exact ⟨n + 1, by omega, by omega, ⟨⟨rfl, rfl⟩, zF, zB, zN, zX⟩⟩
  try replace hc := of_decide_eq_false hc
  refine cz ?_
  refine K7 _ ?_
  refine yR ?_
  refine yM rfl rfl ?_
  refine aa rfl (bu rfl rfl rfl (by omega)) ?_
  refine yA rfl rfl ?_
  refine yN ?_
  dsimp only [St.put]
  rw [ufb (n := n) hk (by omega)]
  exact ⟨k + 1, by omega, by omega, ⟨⟨rfl, rfl⟩, zF, zB, zN, zX⟩⟩
 try replace hc := of_decide_eq_false hc
 refine cz ?_
 refine K3 _ ?_
 refine yS fun _ K16 => ?_
 refine yR ?_
 refine yM rfl rfl ?_
 refine yA rfl rfl ?_
 refine yN ?_
 dsimp only [St.put]
 rw [gd (show t.length ≤ k by omega)]
 refine K16 _ ?_
 refine ax ?_
 refine o9 rfl (eg (by constructor)) zN zS ?_
 exact zW
end Go.Proofs.YtbbdginipiljdaaGreatDoor
namespace Go.AB
/-- a sum -/
def sm : Nat → (Nat → Int) → Int
 | 0, _ => 0
 | n + 1, g => sm n g + g n
theorem mp : ∀ {n : Nat} {g h : Nat → Int}, (∀ i, i < n → g i ≤ h i) → sm n g ≤ sm n h
 | 0, _, _, _ => Int.le_refl _
 | n + 1, g, h, H => by
  have h1 := mp (n := n) fun i hi => H i (by omega)
  have h2 := H n (by omega)
  simp only [sm]; omega
theorem io : ∀ {n : Nat} {g h : Nat → Int}, (∀ i, i < n → g i = h i) → sm n g = sm n h
 | 0, _, _, _ => rfl
 | n + 1, g, h, H => by
  have h1 := io (n := n) fun i hi => H i (by omega)
  have h2 := H n (by omega)
  simp only [sm]; omega
theorem nh : ∀ (n : Nat) (g h : Nat → Int), sm n (fun i => g i + h i) = sm n g + sm n h
 | 0, _, _ => rfl
 | n + 1, g, h => by have := nh n g h; simp only [sm]; omega
theorem oo : ∀ (n : Nat) (g h : Nat → Int), sm n (fun i => g i - h i) = sm n g - sm n h
 | 0, _, _ => rfl
 | n + 1, g, h => by have := oo n g h; simp only [sm]; omega
theorem l3 : ∀ n : Nat, sm n (fun _ => 0) = 0
 | 0 => rfl
 | n + 1 => by have := l3 n; simp only [sm]; omega
theorem uj {n : Nat} {g : Nat → Int} (H : ∀ i, i < n → 0 ≤ g i) : 0 ≤ sm n g := by
 have := mp (g := fun _ => 0) H
 rwa [l3] at this
theorem oq : ∀ {n k : Nat} (_ : k < n) (v : Int), sm n (fun i => bif decide (i = k) then v else 0) = v
 | 0, _, h, _ => absurd h (Nat.not_lt_zero _)
 | n + 1, k, h, v => by
  simp only [sm]
  by_cases e : n = k
  ·subst e
   rw [io (h := fun _ => 0) (fun i hi => by rw [decide_eq_false (by omega)]; rfl), l3, decide_eq_true rfl]
   simp
  ·rw [oq (n := n) (by omega) v, decide_eq_false e]
   simp
theorem uap : ∀ (n m : Nat) (g : Nat → Nat → Int), sm n (fun i => sm m (g i)) = sm m (fun j => sm n fun i => g i j)
 | 0, m, g => by simp only [sm]; exact (l3 m).symm
 | n + 1, m, g => by
  have := uap n m g
  simp only [sm]
  rw [nh, this]
theorem uaq {n k : Nat} {g : Nat → Int} (hk : k < n) (H : ∀ i, i < n → 0 ≤ g i) : g k ≤ sm n g := by
 have h1 := mp (n := n) (g := fun i => bif decide (i = k) then g k else 0) (h := g) fun i hi => by
  by_cases e : i = k
  ·subst e; simp
  ·rw [decide_eq_false e]; exact H i hi
 rwa [oq hk] at h1

/-- pages, each with a first and a second reader, or one of them, or none -/
structure Net where
 nF : Nat
 nr : Nat
 np : Nat
 fr : Nat → Option Nat
 sc : Nat → Option Nat
structure Net.Ok (N : Net) : Prop where
 le : N.nF ≤ N.nr
 fr : ∀ j i, N.fr j = some i → i < N.nF
 sc : ∀ j i, N.sc j = some i → N.nF ≤ i ∧ i < N.nr
def ob (S : Nat → Bool) : Option Nat → Bool
 | none => false
 | some i => S i
def Net.hit (N : Net) (S : Nat → Bool) (j : Nat) : Bool := ob S (N.fr j) || ob S (N.sc j)
/-- who reads a page -/
def Net.by (N : Net) (j i : Nat) : Bool := decide (N.fr j = some i) || decide (N.sc j = some i)
/-- what a set of readers proves -/
def Net.f (N : Net) (R C : Nat → Int) (S : Nat → Bool) : Int := sm N.nr (fun i => bif S i then R i else 0) + sm N.np (fun j => bif N.hit S j then 0 else C j)
/-- what may remain -/
structure Net.Feas (N : Net) (R C y : Nat → Int) : Prop where
 page : ∀ j, j < N.np → 0 ≤ y j ∧ y j ≤ C j
 rd : ∀ i, i < N.nr → sm N.np (fun j => bif N.by j i then y j else 0) ≤ R i
section
variable {N : Net} {R C : Nat → Int}
theorem Net.Ok.by_lt (h : N.Ok) {j i : Nat} (hb : N.by j i = true) : i < N.nr := by
 simp only [Net.by, Bool.or_eq_true, decide_eq_true_eq] at hb
 rcases hb with e | e
 ·have := h.fr j i e; have := h.le; omega
 ·exact (h.sc j i e).2
theorem Net.hit_iff {S : Nat → Bool} {j : Nat} : N.hit S j = true ↔ ∃ i, N.by j i = true ∧ S i = true := by
 unfold Net.hit Net.by
 constructor
 ·intro h
  rw [Bool.or_eq_true] at h
  rcases h with h | h
  ·cases e : N.fr j with
   | none => rw [e] at h; cases h
   | some i => rw [e] at h; exact ⟨i, by simp, h⟩
  ·cases e : N.sc j with
   | none => rw [e] at h; cases h
   | some i => rw [e] at h; exact ⟨i, by simp, h⟩
 ·rintro ⟨i, h1, h2⟩
  simp only [Bool.or_eq_true, decide_eq_true_eq] at h1 ⊢
  rcases h1 with e | e
  ·rw [e]; exact .inl h2
  ·rw [e]; exact .inr h2
theorem Net.f_congr (hN : N.Ok) {S S' : Nat → Bool} (h : ∀ i, i < N.nr → S i = S' i) : N.f R C S = N.f R C S' := by
 have h2 : ∀ j, N.hit S j = N.hit S' j := fun j => by
  rw [Bool.eq_iff_iff, Net.hit_iff, Net.hit_iff]
  exact ⟨fun ⟨i, q1, q2⟩ => ⟨i, q1, (h i (hN.by_lt q1)) ▸ q2⟩, fun ⟨i, q1, q2⟩ => ⟨i, q1, (h i (hN.by_lt q1)).symm ▸ q2⟩⟩
 have e1 : sm N.nr (fun i => bif S i then R i else 0) = sm N.nr (fun i => bif S' i then R i else 0) := io fun i hi => by rw [h i hi]
 have e2 : sm N.np (fun j => bif N.hit S j then 0 else C j) = sm N.np (fun j => bif N.hit S' j then 0 else C j) := io fun j _ => by rw [h2 j]
 unfold Net.f
 rw [e1, e2]
/-- no more remains than any readers prove -/
theorem Net.Feas.le {y : Nat → Int} (hN : N.Ok) (h : N.Feas R C y) (S : Nat → Bool) : sm N.np y ≤ N.f R C S := by
 have h1 : sm N.np (fun j => bif N.hit S j then y j else 0) ≤ sm N.nr (fun i => bif S i then R i else 0) := by
  have h2 : sm N.nr (fun i => sm N.np fun j => bif S i then (bif N.by j i then y j else 0) else 0) ≤ sm N.nr (fun i => bif S i then R i else 0) := mp fun i hi => by
   cases hS : S i
   ·simp only [cond_false, l3]; exact Int.le_refl _
   ·simp only [cond_true]; exact h.rd i hi
  refine Int.le_trans ?_ h2
  rw [uap]
  refine mp fun j hj => ?_
  have hy := (h.page j hj).1
  have hnn : ∀ i, i < N.nr → 0 ≤ (bif S i then (bif N.by j i then y j else 0) else 0) := fun i _ => by
   cases S i <;> cases N.by j i <;> simp [hy]
  cases hh : N.hit S j
  ·exact uj hnn
  ·obtain ⟨i, q1, q2⟩ := Net.hit_iff.1 hh
   have := uaq (hN.by_lt q1) hnn
   simpa [q1, q2] using this
 have h3 : sm N.np (fun j => bif N.hit S j then 0 else y j) ≤ sm N.np (fun j => bif N.hit S j then 0 else C j) := mp fun j hj => by
  cases N.hit S j
  ·exact (h.page j hj).2
  ·exact Int.le_refl _
 have h4 : sm N.np y = sm N.np (fun j => bif N.hit S j then y j else 0) + sm N.np (fun j => bif N.hit S j then 0 else y j) := by
  rw [← nh]
  exact io fun j _ => by cases N.hit S j <;> simp
 unfold Net.f
 omega
/-- two sets of readers, crossed -/
def mb (nF : Nat) (S T : Nat → Bool) (i : Nat) : Bool := bif decide (i < nF) then S i || T i else S i && T i
def ma (nF : Nat) (S T : Nat → Bool) (i : Nat) : Bool := bif decide (i < nF) then S i && T i else S i || T i
theorem Net.cross (hN : N.Ok) (hC : ∀ j, j < N.np → 0 ≤ C j) (S T : Nat → Bool) : N.f R C (mb N.nF S T) + N.f R C (ma N.nF S T) ≤ N.f R C S + N.f R C T := by
 have h1 : sm N.nr (fun i => bif mb N.nF S T i then R i else 0) + sm N.nr (fun i => bif ma N.nF S T i then R i else 0) = sm N.nr (fun i => bif S i then R i else 0) + sm N.nr (fun i => bif T i then R i else 0) := by
  rw [← nh, ← nh]
  refine io fun i _ => ?_
  unfold mb ma
  cases decide (i < N.nF) <;> cases S i <;> cases T i <;> simp
 have h2 : sm N.np (fun j => bif N.hit (mb N.nF S T) j then 0 else C j) + sm N.np (fun j => bif N.hit (ma N.nF S T) j then 0 else C j) ≤ sm N.np (fun j => bif N.hit S j then 0 else C j) + sm N.np (fun j => bif N.hit T j then 0 else C j) := by
  rw [← nh, ← nh]
  refine mp fun j hj => ?_
  have hc := hC j hj
  have e1 : ∀ U V : Nat → Bool, ob (mb N.nF U V) (N.fr j) = (ob U (N.fr j) || ob V (N.fr j)) := fun U V => by
   cases e : N.fr j with
   | none => rfl
   | some i => simp only [ob, mb, decide_eq_true (hN.fr j i e), cond_true]
  have e2 : ∀ U V : Nat → Bool, ob (ma N.nF U V) (N.fr j) = (ob U (N.fr j) && ob V (N.fr j)) := fun U V => by
   cases e : N.fr j with
   | none => rfl
   | some i => simp only [ob, ma, decide_eq_true (hN.fr j i e), cond_true]
  have e3 : ∀ U V : Nat → Bool, ob (mb N.nF U V) (N.sc j) = (ob U (N.sc j) && ob V (N.sc j)) := fun U V => by
   cases e : N.sc j with
   | none => rfl
   | some i => have := hN.sc j i e; simp only [ob, mb, decide_eq_false (show ¬ i < N.nF by omega), cond_false]
  have e4 : ∀ U V : Nat → Bool, ob (ma N.nF U V) (N.sc j) = (ob U (N.sc j) || ob V (N.sc j)) := fun U V => by
   cases e : N.sc j with
   | none => rfl
   | some i => have := hN.sc j i e; simp only [ob, ma, decide_eq_false (show ¬ i < N.nF by omega), cond_false]
  simp only [Net.hit, e1, e2, e3, e4]
  cases ob S (N.fr j) <;> cases ob T (N.fr j) <;> cases ob S (N.sc j) <;> cases ob T (N.sc j) <;> simp <;> omega
 unfold Net.f
 omega
/-- so much less for the readers of a page, and nothing more on it -/
def Net.lessR (N : Net) (R : Nat → Int) (j : Nat) (n : Int) (i : Nat) : Int := bif N.by j i then R i - n else R i
def d7 (C : Nat → Int) (j k : Nat) : Int := bif decide (k = j) then 0 else C k
def cnt (S : Nat → Bool) (o : Option Nat) (n : Int) : Int := bif ob S o then n else 0
theorem Net.f_less (hN : N.Ok) {j : Nat} (hj : j < N.np) (n : Int) (S : Nat → Bool) : N.f (N.lessR R j n) (d7 C j) S = N.f R C S - cnt S (N.fr j) n - cnt S (N.sc j) n - (bif N.hit S j then 0 else C j) := by
 have h1 : sm N.np (fun k => bif N.hit S k then 0 else d7 C j k) = sm N.np (fun k => bif N.hit S k then 0 else C k) - (bif N.hit S j then 0 else C j) := by
  have := oq hj (bif N.hit S j then 0 else C j)
  rw [← this, ← oo]
  refine io fun k _ => ?_
  by_cases e : k = j
  ·subst e; simp [d7]
  ·simp [d7, e]
 have h2 : ∀ o : Option Nat, (∀ i, o = some i → i < N.nr) → sm N.nr (fun i => bif decide (o = some i) then (bif S i then n else 0) else 0) = cnt S o n := fun o ho => by
  cases o with
  | none => simp only [cnt, ob, cond_false]; rw [io (h := fun _ => 0) (fun i _ => by simp), l3]
  | some k =>
   have := oq (ho k rfl) (bif S k then n else 0)
   rw [io (h := fun i => bif decide (i = k) then (bif S k then n else 0) else 0)]
   ·exact this
   ·intro i _
    by_cases e : i = k
    ·subst e; simp
    ·simp [e, Ne.symm e]
 have h3 : sm N.nr (fun i => bif S i then N.lessR R j n i else 0) = sm N.nr (fun i => bif S i then R i else 0) - cnt S (N.fr j) n - cnt S (N.sc j) n := by
  rw [← h2 (N.fr j) (fun i e => by have := hN.fr j i e; have := hN.le; omega), ← h2 (N.sc j) (fun i e => (hN.sc j i e).2), ← oo, ← oo]
  refine io fun i _ => ?_
  unfold Net.lessR Net.by
  have hx : ¬ (N.fr j = some i ∧ N.sc j = some i) := fun ⟨q1, q2⟩ => by have := hN.fr j i q1; have := (hN.sc j i q2).1; omega
  by_cases q1 : N.fr j = some i
  ·have q2 : ¬ N.sc j = some i := fun q2 => hx ⟨q1, q2⟩
   cases S i <;> simp [q1, q2]
  ·by_cases q2 : N.sc j = some i
   ·cases S i <;> simp [q1, q2]
   ·cases S i <;> simp [q1, q2]
 unfold Net.f
 rw [h1, h3]
 omega
/-- the least of some numbers, as it is looked for -/
def ll (g : Nat → Int) : Nat → Int
 | 0 => g 0
 | k + 1 => min (ll g k) (g k)
theorem ucm {g : Nat → Int} : ∀ {k s : Nat}, s < k ∨ s = 0 → ll g k ≤ g s
 | 0, s, h => by obtain rfl : s = 0 := by omega
         exact Int.le_refl _
 | k + 1, s, h => by
  by_cases e : s = k
  ·subst e; exact Int.min_le_right _ _
  ·have := ucm (g := g) (k := k) (s := s) (by omega)
   exact Int.le_trans (Int.min_le_left _ _) this
theorem yd {g : Nat → Int} : ∀ k : Nat, ∃ s, (s < k ∨ s = 0) ∧ ll g k = g s
 | 0 => ⟨0, .inr rfl, rfl⟩
 | k + 1 => by
  obtain ⟨s, h1, h2⟩ := yd (g := g) k
  by_cases e : ll g k ≤ g k
  ·exact ⟨s, by omega, by rw [ll, Int.min_eq_left e, h2]⟩
  ·exact ⟨k, by omega, by rw [ll, Int.min_eq_right (by omega)]⟩
/-- a set as a number -/
def pd (S : Nat → Bool) : Nat → Nat
 | 0 => 0
 | n + 1 => pd S n ||| (bif S n then 2 ^ n else 0)
theorem ueo (S : Nat → Bool) : ∀ n, pd S n < 2 ^ n
 | 0 => by simp [pd]
 | n + 1 => by
  have h := ueo S n
  have h2 : 2 ^ n < 2 ^ (n + 1) := Nat.pow_lt_pow_right (by omega) (by omega)
  unfold pd
  refine Nat.or_lt_two_pow (by omega) ?_
  cases S n
  ·exact Nat.two_pow_pos _
  ·exact h2
theorem uep (S : Nat → Bool) : ∀ n i, (pd S n).testBit i = (decide (i < n) && S i)
 | 0, i => by simp [pd]
 | n + 1, i => by
  have h := uep S n i
  unfold pd
  rw [Nat.testBit_or, h]
  by_cases e : i = n
  ·subst e
   cases hS : S i <;> simp
  ·have e2 : decide (i < n + 1) = decide (i < n) := by rw [decide_eq_decide]; omega
   rw [e2]
   cases hS : S n
   ·simp
   ·simp only [cond_true, Nat.testBit_two_pow]
    rw [decide_eq_false (Ne.symm e), Bool.or_false]
def Net.most (N : Net) (R C : Nat → Int) : Int := ll (fun s => N.f R C fun i => s.testBit i) (2 ^ N.nr)
theorem Net.most_le (hN : N.Ok) (S : Nat → Bool) : N.most R C ≤ N.f R C S := by
 have h := ucm (g := fun s => N.f R C fun i => s.testBit i) (k := 2 ^ N.nr) (s := pd S N.nr) (.inl (ueo S _))
 refine Int.le_trans h (Int.le_of_eq (Net.f_congr hN fun i hi => ?_))
 rw [uep, decide_eq_true hi, Bool.true_and]
theorem Net.most_get (N : Net) (R C : Nat → Int) : ∃ S : Nat → Bool, N.most R C = N.f R C S := by
 obtain ⟨s, _, h⟩ := yd (g := fun s => N.f R C fun i => s.testBit i) (2 ^ N.nr)
 exact ⟨fun i => s.testBit i, h⟩
def nv (n : Int) (R : Nat → Int) : Option Nat → Int
 | none => n
 | some i => min n (R i)
/-- the most on one page -/
def Net.alone (N : Net) (R C : Nat → Int) (j : Nat) : Int := nv (nv (C j) R (N.fr j)) R (N.sc j)
theorem ucl {n m : Int} {o : Option Nat} : m ≤ nv n R o ↔ m ≤ n ∧ ∀ i, o = some i → m ≤ R i := by
 cases o with
 | none => simp [nv]
 | some k => simp only [nv, Int.le_min, Option.some.injEq, forall_eq']
theorem Net.le_alone {j : Nat} {m : Int} : m ≤ N.alone R C j ↔ m ≤ C j ∧ ∀ i, N.by j i = true → m ≤ R i := by
 unfold Net.alone Net.by
 rw [ucl, ucl]
 simp only [Bool.or_eq_true, decide_eq_true_eq]
 exact ⟨fun ⟨⟨h1, h2⟩, h3⟩ => ⟨h1, fun i hi => hi.elim (h2 i) (h3 i)⟩, fun ⟨h1, h2⟩ => ⟨⟨h1, fun i hi => h2 i (.inl hi)⟩, fun i hi => h2 i (.inr hi)⟩⟩
/-- what remains, and so much less of it -/
theorem Net.less_le (hN : N.Ok) {j : Nat} (hj : j < N.np) {n : Int} (h0 : 0 ≤ n) (hn : n ≤ C j) : n + N.most (N.lessR R j n) (d7 C j) ≤ N.most R C := by
 obtain ⟨S, hS⟩ := N.most_get R C
 have h1 := Net.most_le (R := N.lessR R j n) (C := d7 C j) hN S
 rw [Net.f_less hN hj] at h1
 rw [hS]
 cases e : N.hit S j
 ·rw [e] at h1
  have e2 := e
  unfold Net.hit at e2
  rw [Bool.or_eq_false_iff] at e2
  simp only [cnt, e2.1, e2.2, cond_false] at h1
  omega
 ·rw [e] at h1
  unfold Net.hit at e
  rw [Bool.or_eq_true] at e
  unfold cnt at h1
  rcases e with q | q
  ·rw [q] at h1
   cases e2 : ob S (N.sc j) <;> rw [e2] at h1 <;> simp only [cond_true, cond_false] at h1 <;> omega
  ·rw [q] at h1
   cases e2 : ob S (N.fr j) <;> rw [e2] at h1 <;> simp only [cond_true, cond_false] at h1 <;> omega
/-- of each page there is a worst number of errors -/
theorem Net.greedy (hN : N.Ok) (hR : ∀ i, i < N.nr → 0 ≤ R i) (hC : ∀ j, j < N.np → 0 ≤ C j) {j : Nat} (hj : j < N.np) : ∃ n : Int, 0 ≤ n ∧ n ≤ N.alone R C j ∧ N.most R C ≤ n + N.most (N.lessR R j n) (d7 C j) := by
 -- the largest number that every set allows
 have hcj := hC j hj
 have hal : 0 ≤ N.alone R C j := Net.le_alone.2 ⟨hcj, fun i hi => hR i (hN.by_lt hi)⟩
 have key : ∀ n : Int, 0 ≤ n → n ≤ N.alone R C j → (∀ S, ob S (N.fr j) = true → ob S (N.sc j) = true → N.most R C ≤ N.f R C S - n) → (n = N.alone R C j ∨ ∃ S, ob S (N.fr j) = true ∧ ob S (N.sc j) = true ∧ N.f R C S - n = N.most R C) → N.most R C ≤ n + N.most (N.lessR R j n) (d7 C j) := by
  intro n h0 h1 h2 h3
  obtain ⟨S, hS⟩ := N.most_get (N.lessR R j n) (d7 C j)
  rw [hS, Net.f_less hN hj]
  have hm := Net.most_le (R := R) (C := C) hN S
  cases e1 : ob S (N.fr j) <;> cases e2 : ob S (N.sc j)
  ·have e : N.hit S j = false := by simp [Net.hit, e1, e2]
   simp only [cnt, e1, e2, e, cond_false]
   -- no reader of the page is in the set
   rcases h3 with h3 | ⟨T, t1, t2, t3⟩
   ·-- as much as can be: the page itself, or a reader
    by_cases hc : n = C j
    ·omega
    ·have h4 := (Net.le_alone.1 h1).1
     obtain ⟨i, hi, hri⟩ : ∃ i, N.by j i = true ∧ R i = n := by
      refine Classical.byContradiction fun hno => ?_
      have : n + 1 ≤ N.alone R C j := Net.le_alone.2 ⟨by omega, fun i hi => by
       have q1 := (Net.le_alone.1 h1).2 i hi
       have q2 : R i ≠ n := fun q => hno ⟨i, hi, q⟩
       omega⟩
      omega
     -- the set with that reader
     have h5 := Net.most_le (R := R) (C := C) hN (fun k => S k || decide (k = i))
     have h6 : N.f R C (fun k => S k || decide (k = i)) ≤ N.f R C S + R i - C j := by
      have g1 : sm N.nr (fun k => bif (S k || decide (k = i)) then R k else 0) ≤ sm N.nr (fun k => bif S k then R k else 0) + R i := by
       have := oq (hN.by_lt hi) (R i)
       rw [← this, ← nh]
       refine mp fun k hk => ?_
       have := hR k hk
       by_cases q : k = i
       ·subst q; cases S k <;> simp <;> omega
       ·cases S k <;> simp [q]
      have g2 : sm N.np (fun k => bif N.hit (fun k => S k || decide (k = i)) k then 0 else C k) ≤ sm N.np (fun k => bif N.hit S k then 0 else C k) - C j := by
       have := oq hj (C j)
       rw [← this, ← oo]
       refine mp fun k hk => ?_
       have hck := hC k hk
       have mono : N.hit S k = true → N.hit (fun k => S k || decide (k = i)) k = true := fun q => by
        obtain ⟨x, x1, x2⟩ := Net.hit_iff.1 q
        exact Net.hit_iff.2 ⟨x, x1, by simp [x2]⟩
       by_cases q : k = j
       ·subst q
        rw [show N.hit (fun k => S k || decide (k = i)) k = true from Net.hit_iff.2 ⟨i, hi, by simp⟩, e]
        simp
       ·rw [decide_eq_false q]
        cases q1 : N.hit S k
        ·cases N.hit (fun k => S k || decide (k = i)) k <;> simp <;> omega
        ·rw [mono q1]; simp
      unfold Net.f
      dsimp only
      omega
     omega
   ·-- crossed with a set that has both
    have hx := Net.cross (R := R) (C := d7 C j) hN (fun k hk => by unfold d7; cases decide (k = j) <;> simp; exact hC k hk) S T
    have hsub : ∀ U : Nat → Bool, N.f R (d7 C j) U = N.f R C U - (bif N.hit U j then 0 else C j) := fun U => by
     have := Net.f_less (R := R) (C := C) hN hj 0 U
     have e0 : N.lessR R j 0 = R := by funext i; unfold Net.lessR; cases N.by j i <;> simp
     rw [e0] at this
     rw [this]
     unfold cnt
     cases ob U (N.fr j) <;> cases ob U (N.sc j) <;> simp
    rw [hsub, hsub, hsub, hsub, e, show N.hit T j = true by simp [Net.hit, t1]] at hx
    obtain ⟨a, ha⟩ : ∃ a, N.fr j = some a := by cases q : N.fr j with
     | none => rw [q] at t1; cases t1
     | some a => exact ⟨a, rfl⟩
    obtain ⟨b, hb⟩ : ∃ b, N.sc j = some b := by cases q : N.sc j with
     | none => rw [q] at t2; cases t2
     | some b => exact ⟨b, rfl⟩
    rw [ha] at t1
    rw [hb] at t2
    have hA : N.hit (mb N.nF S T) j = true := by
     simp only [Net.hit, ha, ob, mb, decide_eq_true (hN.fr j a ha), cond_true]
     rw [show T a = true from t1]; simp
    have hB : N.hit (ma N.nF S T) j = true := by
     have := hN.sc j b hb
     simp only [Net.hit, hb, ob, ma, decide_eq_false (show ¬ b < N.nF by omega), cond_false]
     rw [show T b = true from t2]; simp
    rw [hA, hB] at hx
    simp only [cond_true, cond_false] at hx
    have q1 := Net.most_le (R := R) (C := C) hN (mb N.nF S T)
    have q2 := Net.most_le (R := R) (C := C) hN (ma N.nF S T)
    omega
  ·have e : N.hit S j = true := by simp [Net.hit, e2]
   simp only [cnt, e1, e2, e, cond_false, cond_true]
   omega
  ·have e : N.hit S j = true := by simp [Net.hit, e1]
   simp only [cnt, e1, e2, e, cond_false, cond_true]
   omega
  ·have e : N.hit S j = true := by simp [Net.hit, e1]
   simp only [cnt, e1, e2, e, cond_true]
   have := h2 S e1 e2
   omega
 by_cases hb : ∀ S, ob S (N.fr j) = true → ob S (N.sc j) = true → N.most R C ≤ N.f R C S - N.alone R C j
 ·exact ⟨_, hal, Int.le_refl _, key _ hal (Int.le_refl _) hb (.inl rfl)⟩
 ·-- the qu of those that have both
  have : ∃ m : Int, (∃ S, ob S (N.fr j) = true ∧ ob S (N.sc j) = true ∧ N.f R C S = m) ∧ ∀ S, ob S (N.fr j) = true → ob S (N.sc j) = true → m ≤ N.f R C S := by
   obtain ⟨S0, s1, s2⟩ : ∃ S, ob S (N.fr j) = true ∧ ob S (N.sc j) = true := by
    refine Classical.byContradiction fun hno => hb fun S h1 h2 => absurd ⟨S, h1, h2⟩ hno
   have hlow : ∀ S, ob S (N.fr j) = true → ob S (N.sc j) = true → N.most R C ≤ N.f R C S := fun S _ _ => Net.most_le hN S
   generalize hd : (N.f R C S0 - N.most R C).toNat = d
   induction d using Nat.strongRecOn generalizing S0 with
   | _ d ih =>
    by_cases hmin : ∀ S, ob S (N.fr j) = true → ob S (N.sc j) = true → N.f R C S0 ≤ N.f R C S
    ·exact ⟨_, ⟨S0, s1, s2, rfl⟩, hmin⟩
    ·obtain ⟨S1, hS1⟩ := Classical.not_forall.1 hmin
     obtain ⟨t1, hS2⟩ := Classical.not_imp.1 hS1
     obtain ⟨t2, hS3⟩ := Classical.not_imp.1 hS2
     have hl1 := hlow S1 t1 t2
     have hl0 := hlow S0 s1 s2
     exact ih _ (by omega) S1 t1 t2 rfl
  obtain ⟨m, ⟨S, q1, q2, q3⟩, q4⟩ := this
  have hm := Net.most_le (R := R) (C := C) hN S
  have hlt : m - N.most R C < N.alone R C j := by
   refine Classical.byContradiction fun hno => hb fun T t1 t2 => ?_
   have := q4 T t1 t2
   omega
  exact ⟨m - N.most R C, by omega, by omega, key _ (by omega) (by omega) (fun T t1 t2 => by have := q4 T t1 t2; omega) (.inr ⟨S, q1, q2, by omega⟩)⟩
end
end Go.AB
namespace Go.PB
structure bw where
 id : Int
 miss : Int
 deriving DecidableEq
structure ar where
 fr : Int
 to : Int
 fst : Int
 snd : Int
 found : List PlaceD
 well : List PlaceD
 deriving DecidableEq
structure ah where
 text : ai
 firsts : List bw
 seconds : List bw
 pages : List ar
 deriving DecidableEq
/-- proofs at work -/
structure cw where
 p : ah
 words : List Int
 all : List (List PlaceD)
 both : List (List PlaceD)
structure bv where
 lo : Int
 hi : Int
 deriving DecidableEq
end Go.PB
namespace Go.AB
open Go Go.RowKit
open Go.AB.Enc (cells)
open Go.PB (ba ai PlaceD bh bk bj bw ar ah cw bv)
instance : Enc bw := ⟨fun x => [.v (.int .i64 x.id), .v (.int .i64 x.miss)], 2, fun _ => rfl, fun m x c h => by
 simp only [List.mem_cons, List.not_mem_nil, or_false] at h; rcases h with rfl | rfl <;> exact .v, fun x c h => by
 simp only [List.mem_cons, List.not_mem_nil, or_false] at h; rcases h with rfl | rfl <;> rfl⟩
instance : Enc bv := ⟨fun x => [.v (.int .i64 x.lo), .v (.int .i64 x.hi)], 2, fun _ => rfl, fun m x c h => by
 simp only [List.mem_cons, List.not_mem_nil, or_false] at h; rcases h with rfl | rfl <;> exact .v, fun x c h => by
 simp only [List.mem_cons, List.not_mem_nil, or_false] at h; rcases h with rfl | rfl <;> rfl⟩
instance : Enc ar := ⟨fun x => [.v (.int .i64 x.fr), .v (.int .i64 x.to), .v (.int .i64 x.fst), .v (.int .i64 x.snd), lst x.found, lst x.well], 6, fun _ => rfl, fun m x c h => by
 simp only [List.mem_cons, List.not_mem_nil, or_false] at h
 rcases h with rfl | rfl | rfl | rfl | rfl | rfl
 ·exact .v
 ·exact .v
 ·exact .v
 ·exact .v
 ·exact b9 m _
 ·exact b9 m _, fun x c h => by
 simp only [List.mem_cons, List.not_mem_nil, or_false] at h; rcases h with rfl | rfl | rfl | rfl | rfl | rfl <;> rfl⟩
instance : Enc ah := ⟨fun x => [lst x.text, lst x.firsts, lst x.seconds, lst x.pages], 4, fun _ => rfl, fun m x c h => by
 simp only [List.mem_cons, List.not_mem_nil, or_false] at h
 rcases h with rfl | rfl | rfl | rfl
 ·exact b9 m _
 ·exact b9 m _
 ·exact b9 m _
 ·exact b9 m _, fun x c h => by
 simp only [List.mem_cons, List.not_mem_nil, or_false] at h; rcases h with rfl | rfl | rfl | rfl <;> rfl⟩
/-! ### Lines of a text -/
/-- the number of a chapter's first line -/
def fy (t : ai) (k : Nat) : Nat := ((t.take k).map fun c => c.lines.length).sum
theorem uam (t : ai) : fy t 0 = 0 := by simp [fy]
theorem rq {t : ai} {k : Nat} {c : ba} (h : t[k]? = some c) : fy t (k + 1) = fy t k + c.lines.length := by
 unfold fy
 rw [List.take_add_one, h]
 simp
def l6 (t : ai) : Nat := fy t t.length
/-- the number of the line of a place -/
def pt (t : ai) (q : PlaceD) : Int := q.ln + (fy t q.ch.toNat : Int)
def fl (t : ai) (x : ar) (q : PlaceD) : Bool := inB (pt t q) x.fr x.to
/-! ### Valid proofs -/
def mg (a b : PlaceD) : Bool := decide (fe (c8 a) (c8 b) < 0)
/-- a place of a list may stand where it does -/
def jj (t : ai) (x : ar) (l : List PlaceD) (i : Nat) : Bool := match l[i]? with
 | none => true
 | some q => fp t q && fl t x q && (decide (i = 0) || match l[i - 1]? with | none => true | some a => mg a q)
def dz (t : ai) (x : ar) (l : List PlaceD) (n : Nat) : Bool := (List.range n).all (jj t x l)
theorem g3 (t : ai) (x : ar) (l : List PlaceD) (n : Nat) : dz t x l (n + 1) = (dz t x l n && jj t x l n) := by
 unfold dz
 rw [List.range_succ, List.all_append]
 simp
def g9 (t : ai) (x : ar) (r : Int) (l : List PlaceD) : Bool := (decide (0 ≤ r) || decide (l = [])) && dz t x l l.length
def gr (r : bw) : Bool := inB r.id 0 9999 && inB r.miss 0 90
def jo (p : ah) : Bool := decide (p.firsts.length ≤ 3) && decide (p.seconds.length ≤ 3) && (p.firsts ++ p.seconds).all gr && decide ((p.firsts ++ p.seconds).map (·.id)).Nodup
def lj (p : ah) (last : Int) (x : ar) : Bool := decide (last < x.fr) && decide (x.fr ≤ x.to) && decide (x.to < (l6 p.text : Int)) && inB x.fst (-1) ((p.firsts.length : Int) - 1) && g9 p.text x x.fst x.found && inB x.snd (-1) ((p.seconds.length : Int) - 1) && g9 p.text x x.snd x.well
/-- the last line ahead of a page -/
def il (l : List ar) : Nat → Int
 | 0 => -1
 | i + 1 => match l[i]? with | some x => x.to | none => -1
def r6 (p : ah) (i : Nat) : Bool := match p.pages[i]? with
 | none => true
 | some x => lj p (il p.pages i) x
def po (p : ah) (n : Nat) : Bool := (List.range n).all (r6 p)
theorem ubn (p : ah) (n : Nat) : po p (n + 1) = (po p n && r6 p n) := by
 unfold po
 rw [List.range_succ, List.all_append]
 simp
def f8 (p : ah) : Bool := jo p && decide (p.pages.length ≤ 8) && po p p.pages.length
def cx (p : ah) : Int := bif dr p.text then (bif f8 p then 0 else 90) else 10
/-! ### What is found on a page -/
def cp (t : ai) (x : ar) : List PlaceD := (dn t).filter fun q => decide (q ∈ x.found) || decide (q ∈ x.well)
def c9 (t : ai) (x : ar) : List PlaceD := (dn t).filter fun q => decide (q ∈ x.found) && decide (q ∈ x.well)
def dp (t : ai) (x : ar) : Nat := ((dn t).filter (fl t x)).length
/-! ### Bounds of readers -/
def ec (b : Bool) (x : ar) : Int := bif b then x.snd else x.fst
def dm (b : Bool) (x : ar) : List PlaceD := bif b then x.well else x.found
def dv (p : ah) (b : Bool) : List bw := bif b then p.seconds else p.firsts
def cr (l : List ar) (g : ar → Nat) : Nat := (l.map g).sum
theorem ly {l : List ar} {k : Nat} {x : ar} {g : ar → Nat} (h : l[k]? = some x) : cr (l.take (k + 1)) g = cr (l.take k) g + g x := by
 unfold cr
 rw [List.take_add_one, h]
 simp
def dh (b : Bool) (i : Int) (x : ar) : Nat := bif decide (ec b x = i) then (dm b x).length else 0
def dx (t : ai) (b : Bool) (i : Int) (x : ar) : Nat := bif decide (ec b x = i) then (cp t x).length else 0
def k6 (p : ah) (b : Bool) (i : Nat) : Int := match (dv p b)[i]? with | some r => r.miss | none => 0
def ju (p : ah) (b : Bool) (i : Nat) : Int := 100 * (cr p.pages (dh b i) : Int) / (100 - k6 p b i)
def k9 (p : ah) (b : Bool) (i : Nat) : Int := ju p b i - (cr p.pages (dx p.text b i) : Int)
/-! ### What may remain -/
def cj (p : ah) : Nat := p.firsts.length + p.seconds.length
def cy (p : ah) (i : Nat) : Int := bif decide (i < p.firsts.length) then k9 p false i else k9 p true (i - p.firsts.length)
def tj (t : ai) (x : ar) : Int := (dp t x : Int) - ((cp t x).length : Int)
def ie (p : ah) : Bool := (List.range (cj p)).all fun i => decide (0 ≤ cy p i)
def bt (p : ah) : Net where
 nF := p.firsts.length
 nr := cj p
 np := p.pages.length
 fr := fun j => match p.pages[j]? with | some x => (bif decide (0 ≤ x.fst) then some x.fst.toNat else none) | none => none
 sc := fun j => match p.pages[j]? with | some x => (bif decide (0 ≤ x.snd) then some (p.firsts.length + x.snd.toNat) else none) | none => none
def g8 (l : List Int) (i : Nat) : Int := (l[i]?).getD 0
end Go.AB
namespace Go.AB
/-- so much on a page is the most of what loses nothing -/
structure Net.Pick (N : Net) (R C : Nat → Int) (j : Nat) (n : Int) : Prop where
 nn : 0 ≤ n
 le : n ≤ N.alone R C j
 ok : N.most R C ≤ n + N.most (N.lessR R j n) (d7 C j)
 max : ∀ m, n < m → m ≤ N.alone R C j → ¬ N.most R C ≤ m + N.most (N.lessR R j m) (d7 C j)
section
variable {N : Net} {R C : Nat → Int}
theorem Net.Pick.uniq {j : Nat} {n m : Int} (h : N.Pick R C j n) (k : N.Pick R C j m) : n = m := by
 rcases Int.lt_trichotomy n m with q | q | q
 ·exact absurd k.ok (h.max m q k.le)
 ·exact q
 ·exact absurd h.ok (k.max n q h.le)
theorem Net.pick_ex (hN : N.Ok) (hR : ∀ i, i < N.nr → 0 ≤ R i) (hC : ∀ j, j < N.np → 0 ≤ C j) {j : Nat} (hj : j < N.np) : ∃ n, N.Pick R C j n := by
 obtain ⟨n, h1, h2, h3⟩ := Net.greedy hN hR hC hj
 generalize hd : (N.alone R C j - n).toNat = d
 induction d using Nat.strongRecOn generalizing n with
 | _ d ih =>
  by_cases hmax : ∀ m, n < m → m ≤ N.alone R C j → ¬ N.most R C ≤ m + N.most (N.lessR R j m) (d7 C j)
  ·exact ⟨n, h1, h2, h3, hmax⟩
  ·obtain ⟨m, hm⟩ := Classical.not_forall.1 hmax
   obtain ⟨q1, hm⟩ := Classical.not_imp.1 hm
   obtain ⟨q2, hm⟩ := Classical.not_imp.1 hm
   exact ih _ (by omega) m (by omega) q2 (Classical.not_not.1 hm) rfl
open Classical in
noncomputable def Net.pick (N : Net) (R C : Nat → Int) (j : Nat) : Int := if h : ∃ n, N.Pick R C j n then h.choose else 0
theorem Net.pick_spec {j : Nat} (h : ∃ n, N.Pick R C j n) : N.Pick R C j (N.pick R C j) := by
 unfold Net.pick
 rw [dif_pos h]
 exact h.choose_spec
theorem Net.pick_eq {j : Nat} {n : Int} (h : N.Pick R C j n) : N.pick R C j = n := (Net.pick_spec ⟨n, h⟩).uniq h
/-- what may remain ahead of a page, by the worst truth -/
noncomputable def Net.room (N : Net) (R C : Nat → Int) : Nat → (Nat → Int) × (Nat → Int)
 | 0 => (R, C)
 | i + 1 => (N.lessR (N.room R C i).1 i (N.pick (N.room R C i).1 (N.room R C i).2 i), d7 (N.room R C i).2 i)
/-- the worst truth -/
noncomputable def Net.worst (N : Net) (R C : Nat → Int) (i : Nat) : Int := N.pick (N.room R C i).1 (N.room R C i).2 i
theorem Net.room_succ (i : Nat) : N.room R C (i + 1) = (N.lessR (N.room R C i).1 i (N.worst R C i), d7 (N.room R C i).2 i) := rfl
structure Net.RoomOk (N : Net) (R C : Nat → Int) (i : Nat) : Prop where
 rnn : ∀ r, r < N.nr → 0 ≤ (N.room R C i).1 r
 cnn : ∀ j, j < N.np → 0 ≤ (N.room R C i).2 j
 all : N.most (N.room R C i).1 (N.room R C i).2 = N.most R C - sm i (N.worst R C)
 caps : ∀ j, (N.room R C i).2 j = bif decide (j < i) then 0 else C j
 rds : ∀ r, (N.room R C i).1 r = R r - sm i (fun j => bif N.by j r then N.worst R C j else 0)
theorem Net.room_ok (hN : N.Ok) (hR : ∀ i, i < N.nr → 0 ≤ R i) (hC : ∀ j, j < N.np → 0 ≤ C j) : ∀ i, i ≤ N.np → N.RoomOk R C i
 | 0, _ => ⟨hR, hC, by simp [Net.room, sm], fun j => by simp [Net.room], fun r => by simp [Net.room, sm]⟩
 | i + 1, hi => by
  have h := Net.room_ok hN hR hC i (by omega)
  have hp : N.Pick (N.room R C i).1 (N.room R C i).2 i (N.worst R C i) := Net.pick_spec (Net.pick_ex hN h.rnn h.cnn (by omega))
  have hal := Net.le_alone.1 hp.le
  have hle := Net.less_le (R := (N.room R C i).1) (C := (N.room R C i).2) hN (show i < N.np by omega) hp.nn hal.1
  have hok := hp.ok
  refine ⟨fun r hr => ?_, fun j hj => ?_, ?_, fun j => ?_, fun r => ?_⟩
  ·rw [Net.room_succ]
   show 0 ≤ N.lessR _ i _ r
   unfold Net.lessR
   cases hb : N.by i r
   ·exact h.rnn r hr
   ·have := hal.2 r hb
    simp only [cond_true]; omega
  ·rw [Net.room_succ]
   show 0 ≤ d7 _ i j
   unfold d7
   cases decide (j = i)
   ·exact h.cnn j hj
   ·exact Int.le_refl _
  ·rw [Net.room_succ]
   have := h.all
   simp only [sm]
   show N.most (N.lessR _ i _) (d7 _ i) = _
   omega
  ·rw [Net.room_succ]
   show d7 _ i j = _
   unfold d7
   rw [h.caps j]
   by_cases e : j = i
   ·subst e; simp
   ·rw [decide_eq_false e, cond_false, show decide (j < i + 1) = decide (j < i) by rw [decide_eq_decide]; omega]
  ·rw [Net.room_succ]
   show N.lessR _ i _ r = _
   unfold Net.lessR
   rw [h.rds r]
   simp only [sm]
   cases N.by i r <;> simp <;> omega
theorem Net.worst_pick (hN : N.Ok) (hR : ∀ i, i < N.nr → 0 ≤ R i) (hC : ∀ j, j < N.np → 0 ≤ C j) {i : Nat} (hi : i < N.np) : N.Pick (N.room R C i).1 (N.room R C i).2 i (N.worst R C i) := by
 have h := Net.room_ok hN hR hC i (by omega)
 exact Net.pick_spec (Net.pick_ex hN h.rnn h.cnn hi)
theorem Net.most_nn (hR : ∀ i, i < N.nr → 0 ≤ R i) (hC : ∀ j, j < N.np → 0 ≤ C j) : 0 ≤ N.most R C := by
 obtain ⟨S, hS⟩ := N.most_get R C
 rw [hS]
 have h1 : 0 ≤ sm N.nr (fun i => bif S i then R i else 0) := uj fun i hi => by cases S i; exact Int.le_refl _; exact hR i hi
 have h2 : 0 ≤ sm N.np (fun j => bif N.hit S j then 0 else C j) := uj fun j hj => by cases N.hit S j; exact hC j hj; exact Int.le_refl _
 unfold Net.f
 omega
theorem Net.worst_sum (hN : N.Ok) (hR : ∀ i, i < N.nr → 0 ≤ R i) (hC : ∀ j, j < N.np → 0 ≤ C j) : sm N.np (N.worst R C) = N.most R C := by
 have h := Net.room_ok hN hR hC N.np (Nat.le_refl _)
 have h1 := Net.most_nn h.rnn h.cnn
 have h2 := Net.most_le (R := (N.room R C N.np).1) (C := (N.room R C N.np).2) hN (fun _ => false)
 have h3 : N.f (N.room R C N.np).1 (N.room R C N.np).2 (fun _ => false) = 0 := by
  have e1 : sm N.nr (fun i => bif (fun _ : Nat => false) i then (N.room R C N.np).1 i else 0) = 0 := (io (h := fun _ => 0) fun i _ => rfl).trans (l3 _)
  have e2 : sm N.np (fun j => bif N.hit (fun _ => false) j then 0 else (N.room R C N.np).2 j) = 0 := (io (h := fun _ => 0) fun j hj => by
   rw [h.caps j, decide_eq_true hj]
   cases N.hit (fun _ => false) j <;> rfl).trans (l3 _)
  unfold Net.f
  rw [e1, e2]; rfl
 have := h.all
 omega
theorem Net.worst_feas (hN : N.Ok) (hR : ∀ i, i < N.nr → 0 ≤ R i) (hC : ∀ j, j < N.np → 0 ≤ C j) : N.Feas R C (N.worst R C) := by
 refine ⟨fun j hj => ?_, fun r hr => ?_⟩
 ·have hp := Net.worst_pick hN hR hC hj
  have h := Net.room_ok hN hR hC j (by omega)
  have := (Net.le_alone.1 hp.le).1
  rw [h.caps j, decide_eq_false (Nat.lt_irrefl _), cond_false] at this
  exact ⟨hp.nn, this⟩
 ·have h := Net.room_ok hN hR hC N.np (Nat.le_refl _)
  have h1 := h.rnn r hr
  rw [h.rds r] at h1
  omega
theorem xd : ∀ {n i : Nat} {g : Nat → Int} (_ : i ≤ n), sm n g = sm i g + sm n (fun j => bif decide (j < i) then 0 else g j)
 | 0, i, g, h => by obtain rfl : i = 0 := by omega
                     rfl
 | n + 1, i, g, h => by
  by_cases e : i = n + 1
  ·subst e
   rw [io (n := n + 1) (g := fun j => bif decide (j < n + 1) then 0 else g j) (h := fun _ => 0) (fun j hj => by rw [decide_eq_true hj]; rfl), l3]
   omega
  ·have := xd (n := n) (i := i) (g := g) (by omega)
   simp only [sm]
   rw [decide_eq_false (show ¬ n < i by omega), cond_false]
   omega
/-- what is left of what may remain, behind the first pages -/
theorem Net.feas_room (hN : N.Ok) (hR : ∀ i, i < N.nr → 0 ≤ R i) (hC : ∀ j, j < N.np → 0 ≤ C j) {y : Nat → Int} (hy : N.Feas R C y) {i : Nat} (hi : i ≤ N.np) (he : ∀ j, j < i → y j = N.worst R C j) : N.Feas (N.room R C i).1 (N.room R C i).2 (fun j => bif decide (j < i) then 0 else y j) := by
 have h := Net.room_ok hN hR hC i hi
 refine ⟨fun j hj => ?_, fun r hr => ?_⟩
 ·rw [h.caps j]
  cases decide (j < i)
  ·exact hy.page j hj
  ·exact ⟨Int.le_refl _, Int.le_refl _⟩
 ·have h1 := hy.rd r hr
  rw [xd hi] at h1
  rw [h.rds r]
  have e1 : sm i (fun j => bif N.by j r then y j else 0) = sm i (fun j => bif N.by j r then N.worst R C j else 0) := io fun j hj => by rw [he j hj]
  have e2 : sm N.np (fun j => bif N.by j r then (bif decide (j < i) then 0 else y j) else 0) = sm N.np (fun j => bif decide (j < i) then 0 else (bif N.by j r then y j else 0)) := io fun j _ => by
   cases N.by j r <;> cases decide (j < i) <;> rfl
  rw [e2]
  omega
/-- feasible on what is left when a page is taken -/
theorem Net.feas_less {y : Nat → Int} (hy : N.Feas R C y) {j : Nat} (hj : j < N.np) : N.Feas (N.lessR R j (y j)) (d7 C j) (d7 y j) := by
 refine ⟨fun k hk => ?_, fun r hr => ?_⟩
 ·unfold d7
  cases decide (k = j)
  ·exact hy.page k hk
  ·exact ⟨Int.le_refl _, Int.le_refl _⟩
 ·have h1 := hy.rd r hr
  have e1 : sm N.np (fun k => bif N.by k r then d7 y j k else 0) = sm N.np (fun k => bif N.by k r then y k else 0) - (bif N.by j r then y j else 0) := by
   have := oq hj (bif N.by j r then y j else 0)
   rw [← this, ← oo]
   refine io fun k _ => ?_
   unfold d7
   by_cases e : k = j
   ·subst e; cases N.by k r <;> simp
   ·rw [decide_eq_false e]; cases N.by k r <;> simp
  rw [e1]
  unfold Net.lessR
  cases N.by j r <;> simp only [cond_true, cond_false] <;> omega
theorem Net.feas_alone {y : Nat → Int} (hN : N.Ok) (hy : N.Feas R C y) {j : Nat} (hj : j < N.np) : y j ≤ N.alone R C j := Net.le_alone.2 ⟨(hy.page j hj).2, fun i hi => by
 have h1 := hy.rd i (hN.by_lt hi)
 have h2 := uaq (n := N.np) (k := j) (g := fun k => bif N.by k i then y k else 0) hj fun k hk => by
  cases N.by k i
  ·exact Int.le_refl _
  ·exact (hy.page k hk).1
 rw [hi] at h2
 exact Int.le_trans h2 h1⟩
theorem uhm {y : Nat → Int} {n j : Nat} (hj : j < n) : sm n (d7 y j) = sm n y - y j := by
 have := oq hj (y j)
 rw [← this, ← oo]
 refine io fun k _ => ?_
 unfold d7
 by_cases e : k = j
 ·subst e; simp
 ·rw [decide_eq_false e]; simp
/-- no truth has as much that remains, and more on the first page that differs -/
theorem Net.worst_lex (hN : N.Ok) (hR : ∀ i, i < N.nr → 0 ≤ R i) (hC : ∀ j, j < N.np → 0 ≤ C j) {y : Nat → Int} (hy : N.Feas R C y) (hs : sm N.np y = N.most R C) {i : Nat} (hi : i < N.np) (he : ∀ j, j < i → y j = N.worst R C j) : y i ≤ N.worst R C i := by
 have h := Net.room_ok hN hR hC i (by omega)
 have hp := Net.worst_pick hN hR hC hi
 have hf := Net.feas_room hN hR hC hy (by omega) he
 have hyi : (bif decide (i < i) then 0 else y i) = y i := by simp
 have ha := Net.feas_alone hN hf hi
 have hl := Net.feas_less hf hi
 rw [hyi] at ha hl
 have hm : sm N.np (d7 (fun j => bif decide (j < i) then 0 else y j) i) ≤ N.most (N.lessR (N.room R C i).1 i (y i)) (d7 (N.room R C i).2 i) := by
  obtain ⟨S, hS⟩ := N.most_get (N.lessR (N.room R C i).1 i (y i)) (d7 (N.room R C i).2 i)
  rw [hS]
  exact hl.le hN S
 rw [uhm hi, hyi] at hm
 have h1 := xd (n := N.np) (i := i) (g := y) (by omega)
 have h2 : sm i y = sm i (N.worst R C) := io he
 have h3 := h.all
 refine Classical.byContradiction fun hno => hp.max (y i) (by omega) ha ?_
 omega
/-- no truth has more that remains -/
theorem Net.feas_most (hN : N.Ok) {y : Nat → Int} (hy : N.Feas R C y) : sm N.np y ≤ N.most R C := by
 obtain ⟨S, hS⟩ := N.most_get R C
 rw [hS]
 exact hy.le hN S
end
end Go.AB
namespace Go.AB
open Go Go.RowKit
open Go.AB.Enc (cells)
open Go.PB (ba ai PlaceD bh bk bj bw ar ah cw bv)
theorem ug8 (g : ar → Nat) : ∀ l : List ar, ((cr l g : Nat) : Int) = sm l.length (fun j => match l[j]? with | some x => (g x : Int) | none => 0) := by
 intro l
 have key : ∀ k, k ≤ l.length → ((cr (l.take k) g : Nat) : Int) = sm k (fun j => match l[j]? with | some x => (g x : Int) | none => 0) := by
  intro k
  induction k with
  | zero => intro _; rfl
  | succ k ih =>
   intro hk
   have hx : l[k]? = some l[k] := List.getElem?_eq_getElem (by omega)
   rw [ly hx]
   simp only [sm, hx]
   have := ih (by omega)
   omega
 have := key l.length (Nat.le_refl _)
 rwa [List.take_length] at this
/-! ### What valid proofs are -/
structure ef (p : ah) : Prop where
 text : dr p.text = true
 nf : p.firsts.length ≤ 3
 ns : p.seconds.length ≤ 3
 np : p.pages.length ≤ 8
 rd : ∀ r ∈ p.firsts ++ p.seconds, gr r = true
 page : ∀ (j : Nat) (x : ar), p.pages[j]? = some x → lj p (il p.pages j) x = true
theorem lu {p : ah} (h : cx p = 0) : ef p ∧ f8 p = true := by
 unfold cx at h
 cases ht : dr p.text
 ·rw [ht] at h; simp at h
 ·cases hp : f8 p
  ·rw [ht, hp] at h; simp at h
  ·refine ⟨?_, rfl⟩
   unfold f8 jo at hp
   simp only [Bool.and_eq_true, decide_eq_true_eq] at hp
   obtain ⟨⟨⟨⟨⟨h1, h2⟩, h3⟩, _⟩, h5⟩, h6⟩ := hp
   refine ⟨ht, h1, h2, h5, fun r hr => List.all_eq_true.1 h3 r hr, fun j x hx => ?_⟩
   have hj := (List.getElem?_eq_some_iff.1 hx).1
   have := List.all_eq_true.1 h6 j (List.mem_range.2 hj)
   unfold r6 at this
   rw [hx] at this
   exact this
structure nd (p : ah) (last : Int) (x : ar) : Prop where
 fr : last < x.fr
 to : x.fr ≤ x.to
 lt : x.to < (l6 p.text : Int)
 fst : -1 ≤ x.fst ∧ x.fst ≤ (p.firsts.length : Int) - 1
 snd : -1 ≤ x.snd ∧ x.snd ≤ (p.seconds.length : Int) - 1
 found : g9 p.text x x.fst x.found = true
 well : g9 p.text x x.snd x.well = true
theorem pageB_true {p : ah} {last : Int} {x : ar} : lj p last x = true ↔ nd p last x := by
 unfold lj
 simp only [Bool.and_eq_true, decide_eq_true_eq, inB_true]
 exact ⟨fun ⟨⟨⟨⟨⟨⟨h1, h2⟩, h3⟩, h4⟩, h5⟩, h6⟩, h7⟩ => ⟨h1, h2, h3, h4, h6, h5, h7⟩, fun h => ⟨⟨⟨⟨⟨⟨h.fr, h.to⟩, h.lt⟩, h.fst⟩, h.found⟩, h.snd⟩, h.well⟩⟩
theorem l8 {t : ai} {x : ar} {r : Int} {l : List PlaceD} (h : g9 t x r l = true) {q : PlaceD} (hq : q ∈ l) : fp t q = true ∧ fl t x q = true := by
 unfold g9 at h
 rw [Bool.and_eq_true] at h
 obtain ⟨i, hi⟩ := List.getElem?_of_mem hq
 have := List.all_eq_true.1 h.2 i (List.mem_range.2 (List.getElem?_eq_some_iff.1 hi).1)
 unfold jj at this
 rw [hi] at this
 simp only [Bool.and_eq_true] at this
 exact this.1
theorem ul5 {t : ai} {x : ar} {r : Int} {l : List PlaceD} (h : g9 t x r l = true) {i : Nat} {a q : PlaceD} (ha : l[i]? = some a) (hq : l[i + 1]? = some q) : fe (c8 a) (c8 q) < 0 := by
 unfold g9 at h
 rw [Bool.and_eq_true] at h
 have := List.all_eq_true.1 h.2 (i + 1) (List.mem_range.2 (List.getElem?_eq_some_iff.1 hq).1)
 unfold jj at this
 rw [hq, Nat.add_sub_cancel, ha] at this
 have h9 : (fp t q = true ∧ fl t x q = true) ∧ fe (c8 a) (c8 q) < 0 := by simpa [mg] using this
 exact h9.2
theorem uet {a b c : PlaceD} (h : fe (c8 a) (c8 b) < 0) (k : fe (c8 b) (c8 c) < 0) : fe (c8 a) (c8 c) < 0 := by
 rw [m8 (by rfl)] at h k ⊢
 exact qq h k
theorem zj (a : PlaceD) : ¬ fe (c8 a) (c8 a) < 0 := by
 rw [m8 (by rfl)]
 exact o4 _
theorem uhe {l : List PlaceD} (h : ∀ (i : Nat) (a q : PlaceD), l[i]? = some a → l[i + 1]? = some q → fe (c8 a) (c8 q) < 0) : l.Pairwise fun a b => fe (c8 a) (c8 b) < 0 := by
 rw [List.pairwise_iff_getElem]
 intro i j hi hj hij
 have key : ∀ d (hd : i + 1 + d < l.length), fe (c8 l[i]) (c8 l[i + 1 + d]) < 0 := by
  intro d
  induction d with
  | zero => intro hd; exact h i _ _ (List.getElem?_eq_getElem hi) (List.getElem?_eq_getElem hd)
  | succ d ih =>
   intro hd
   exact uet (ih (by omega)) (h (i + 1 + d) _ _ (List.getElem?_eq_getElem (by omega)) (List.getElem?_eq_getElem hd))
 have := key (j - (i + 1)) (by omega)
 simpa [show i + 1 + (j - (i + 1)) = j by omega] using this
theorem vx {t : ai} {x : ar} {r : Int} {l : List PlaceD} (h : g9 t x r l = true) : l.Pairwise fun a b => fe (c8 a) (c8 b) < 0 := uhe fun _ _ _ ha hq => ul5 h ha hq
/-- lists in order, with the same places -/
theorem ui : ∀ {l m : List PlaceD}, l.Pairwise (fun a b => fe (c8 a) (c8 b) < 0) → m.Pairwise (fun a b => fe (c8 a) (c8 b) < 0) → (∀ q, q ∈ l ↔ q ∈ m) → l = m
 | [], [], _, _, _ => rfl
 | [], b :: m, _, _, h => by have := (h b).2 (List.mem_cons_self ..); cases this
 | a :: l, [], _, _, h => by have := (h a).1 (List.mem_cons_self ..); cases this
 | a :: l, b :: m, h1, h2, h => by
  rw [List.pairwise_cons] at h1 h2
  have hab : a = b := by
   have p1 := (h a).1 (List.mem_cons_self ..)
   have p2 := (h b).2 (List.mem_cons_self ..)
   rw [List.mem_cons] at p1 p2
   rcases p1 with rfl | p1
   ·rfl
   ·rcases p2 with rfl | p2
    ·rfl
    ·exact absurd (uet (h1.1 b p2) (h2.1 a p1)) (zj a)
  subst hab
  rw [ui h1.2 h2.2 fun q => ?_]
  constructor
  ·intro hq
   have := (h q).1 (List.mem_cons_of_mem _ hq)
   rw [List.mem_cons] at this
   rcases this with rfl | this
   ·exact absurd (h1.1 q hq) (zj q)
   ·exact this
  ·intro hq
   have := (h q).2 (List.mem_cons_of_mem _ hq)
   rw [List.mem_cons] at this
   rcases this with rfl | this
   ·exact absurd (h2.1 q hq) (zj q)
   ·exact this
/-! ### Pages between readers -/
def ms (p : ah) (j : Nat) (g : ar → Int) : Int := match p.pages[j]? with | some x => g x | none => 0
theorem oy {p : ah} {j : Nat} {x : ar} (h : p.pages[j]? = some x) (g : ar → Int) : ms p j g = g x := by unfold ms; rw [h]
def dd (p : ah) (j : Nat) : Int := ms p j (tj p.text)
def dl (p : ah) (j : Nat) : Int := ms p j fun x => ((cp p.text x).length : Int)
def kj (p : ah) (j : Nat) : Int := ms p j fun x => (dp p.text x : Int)
theorem qm {p : ah} (h : ef p) : (bt p).Ok := by
 refine ⟨Nat.le_add_right _ _, fun j i hi => ?_, fun j i hi => ?_⟩
 ·simp only [bt] at hi ⊢
  cases hx : p.pages[j]? with
  | none => rw [hx] at hi; cases hi
  | some x =>
   rw [hx] at hi
   have hp := (pageB_true.1 (h.page j x hx)).fst
   dsimp only at hi
   by_cases q : 0 ≤ x.fst
   ·rw [decide_eq_true q, cond_true, Option.some.injEq] at hi
    omega
   ·rw [decide_eq_false q] at hi; cases hi
 ·simp only [bt, cj] at hi ⊢
  cases hx : p.pages[j]? with
  | none => rw [hx] at hi; cases hi
  | some x =>
   rw [hx] at hi
   have hp := (pageB_true.1 (h.page j x hx)).snd
   dsimp only at hi
   by_cases q : 0 ≤ x.snd
   ·rw [decide_eq_true q, cond_true, Option.some.injEq] at hi
    omega
   ·rw [decide_eq_false q] at hi; cases hi
/-- the readers of a page, as the program lists them -/
def du (p : ah) (x : ar) : List Int := (bif decide (0 ≤ x.fst) then [x.fst] else []) ++ (bif decide (0 ≤ x.snd) then [(p.firsts.length : Int) + x.snd] else [])
theorem uls {p : ah} {j : Nat} {x : ar} (hx : p.pages[j]? = some x) (S : Nat → Bool) : (bt p).hit S j = (du p x).any fun k => S k.toNat := by
 simp only [Net.hit, bt, hx, du, List.any_append]
 congr 1
 ·cases decide (0 ≤ x.fst) <;> simp [ob]
 ·by_cases q : 0 ≤ x.snd
  ·simp [q, ob, show ((p.firsts.length : Int) + x.snd).toNat = p.firsts.length + x.snd.toNat by omega]
  ·simp [q, ob]
theorem q9 {p : ah} (h : ef p) {j : Nat} {x : ar} (hx : p.pages[j]? = some x) (i : Nat) : (bt p).by j i = bif decide (i < p.firsts.length) then decide (ec false x = (i : Int)) else decide (ec true x = ((i - p.firsts.length : Nat) : Int)) := by
 have hp := pageB_true.1 (h.page j x hx)
 have h1 := hp.fst
 have h2 := hp.snd
 simp only [Net.by, bt, hx]
 rw [Bool.eq_iff_iff]
 by_cases hi : i < p.firsts.length
 ·rw [decide_eq_true hi, cond_true, Bool.or_eq_true, decide_eq_true_eq, decide_eq_true_eq, decide_eq_true_eq]
  show _ ↔ x.fst = (i : Int)
  constructor
  ·rintro (q | q)
   ·by_cases z : 0 ≤ x.fst
    ·rw [decide_eq_true z, cond_true, Option.some.injEq] at q; omega
    ·rw [decide_eq_false z] at q; cases q
   ·by_cases z : 0 ≤ x.snd
    ·rw [decide_eq_true z, cond_true, Option.some.injEq] at q; omega
    ·rw [decide_eq_false z] at q; cases q
  ·intro q
   left
   rw [decide_eq_true (show 0 ≤ x.fst by omega), cond_true, Option.some.injEq]
   omega
 ·rw [decide_eq_false hi, cond_false, Bool.or_eq_true, decide_eq_true_eq, decide_eq_true_eq, decide_eq_true_eq]
  show _ ↔ x.snd = ((i - p.firsts.length : Nat) : Int)
  constructor
  ·rintro (q | q)
   ·by_cases z : 0 ≤ x.fst
    ·rw [decide_eq_true z, cond_true, Option.some.injEq] at q; omega
    ·rw [decide_eq_false z] at q; cases q
   ·by_cases z : 0 ≤ x.snd
    ·rw [decide_eq_true z, cond_true, Option.some.injEq] at q; omega
    ·rw [decide_eq_false z] at q; cases q
  ·intro q
   right
   rw [decide_eq_true (show 0 ≤ x.snd by omega), cond_true, Option.some.injEq]
   omega
theorem ulx {p : ah} {last : Int} {x : ar} (h : nd p last x) : (cp p.text x).length ≤ dp p.text x := by
 unfold cp dp
 rw [← List.countP_eq_length_filter, ← List.countP_eq_length_filter]
 refine List.countP_mono_left fun q _ hq => ?_
 rw [Bool.or_eq_true, decide_eq_true_eq, decide_eq_true_eq] at hq
 rcases hq with hq | hq
 ·exact (l8 h.found hq).2
 ·exact (l8 h.well hq).2
theorem p3 {p : ah} (h : ef p) (j : Nat) : 0 ≤ dd p j := by
 unfold dd ms
 cases hx : p.pages[j]? with
 | none => exact Int.le_refl _
 | some x =>
  have := ulx (pageB_true.1 (h.page j x hx))
  show 0 ≤ tj p.text x
  unfold tj
  omega
def kg (p : ah) (i : Nat) : Int := bif decide (i < p.firsts.length) then ju p false i else ju p true (i - p.firsts.length)
/-- of the bound of a reader is left what is not told -/
theorem ucx {p : ah} (h : ef p) (i : Nat) : cy p i = kg p i - sm p.pages.length (fun j => bif (bt p).by j i then dl p j else 0) := by
 have key : ∀ (b : Bool) (k : Int), (∀ (j : Nat) (x : ar), p.pages[j]? = some x → (bt p).by j i = decide (ec b x = k)) → ((cr p.pages (dx p.text b k) : Nat) : Int) = sm p.pages.length (fun j => bif (bt p).by j i then dl p j else 0) := fun b k hb => by
  rw [ug8]
  refine io fun j hj => ?_
  have hx : p.pages[j]? = some p.pages[j] := List.getElem?_eq_getElem hj
  rw [hb j _ hx]
  unfold dl
  rw [oy hx, hx]
  dsimp only
  unfold dx
  cases decide (ec b p.pages[j] = k) <;> rfl
 unfold cy kg
 by_cases hi : i < p.firsts.length
 ·rw [decide_eq_true hi, cond_true, cond_true]
  unfold k9
  rw [key false i fun j x hx => by rw [q9 h hx, decide_eq_true hi, cond_true]]
 ·rw [decide_eq_false hi, cond_false, cond_false]
  unfold k9
  rw [key true _ fun j x hx => by rw [q9 h hx, decide_eq_false hi, cond_false]]
/-- errors on all pages that are a truth -/
def jm (p : ah) (es : List Int) : Bool := decide (es.length = p.pages.length) && (List.range p.pages.length).all (fun j => inB (g8 es j) (dl p j) (kj p j)) && (List.range (cj p)).all fun i => decide (sm p.pages.length (fun j => bif (bt p).by j i then g8 es j else 0) ≤ kg p i)
theorem ugq {p : ah} (h : ef p) {es : List Int} : jm p es = true ↔ es.length = p.pages.length ∧ (bt p).Feas (cy p) (dd p) (fun j => g8 es j - dl p j) := by
 unfold jm
 simp only [Bool.and_eq_true, decide_eq_true_eq, List.all_eq_true, List.mem_range, inB_true]
 have hcap : ∀ j, j < p.pages.length → dd p j = kj p j - dl p j := fun j hj => by
  have hx : p.pages[j]? = some p.pages[j] := List.getElem?_eq_getElem hj
  unfold dd kj dl
  rw [oy hx, oy hx, oy hx]
  rfl
 have hsub : ∀ i, sm p.pages.length (fun j => bif (bt p).by j i then g8 es j - dl p j else 0) = sm p.pages.length (fun j => bif (bt p).by j i then g8 es j else 0) - sm p.pages.length (fun j => bif (bt p).by j i then dl p j else 0) := fun i => by
  rw [← oo]
  exact io fun j _ => by cases (bt p).by j i <;> simp
 constructor
 ·rintro ⟨⟨h1, h2⟩, h3⟩
  refine ⟨h1, fun j hj => ?_, fun i hi => ?_⟩
  ·have := h2 j hj
   have := hcap j hj
   omega
  ·have := h3 i hi
   have e := ucx h i
   have := hsub i
   show sm p.pages.length _ ≤ _
   omega
 ·rintro ⟨h1, h2⟩
  refine ⟨⟨h1, fun j hj => ?_⟩, fun i hi => ?_⟩
  ·have := h2.page j hj
   have := hcap j hj
   omega
  ·have q : sm p.pages.length (fun j => bif (bt p).by j i then g8 es j - dl p j else 0) ≤ cy p i := h2.rd i hi
   have e := ucx h i
   have := hsub i
   omega
end Go.AB
namespace Go.AB
open Go Go.RowKit
open Go.AB.Enc (cells)
/-- the numbers of a set -/
def vd (n s : Nat) : List Nat := (List.range n).filter fun i => s.testBit i
def e8 (n s : Nat) : List Int := (vd n s).map fun i : Nat => (i : Int)
theorem uco (n s : Nat) : e8 (n + 1) s = e8 n s ++ (bif s.testBit n then [(n : Int)] else []) := by
 unfold e8 vd
 rw [List.range_succ, List.filter_append, List.map_append]
 cases h : s.testBit n <;> simp [h]
theorem sn (n s : Nat) : (e8 n s).length ≤ n := by
 unfold e8 vd
 rw [List.length_map]
 have := List.length_filter_le (fun i => s.testBit i) (List.range n)
 rwa [List.length_range] at this
theorem membersL_mem {n s : Nat} {x : Int} : x ∈ e8 n s ↔ ∃ i : Nat, x = (i : Int) ∧ i < n ∧ s.testBit i = true := by
 unfold e8 vd
 simp only [List.mem_map, List.mem_filter, List.mem_range]
 exact ⟨fun ⟨i, ⟨h1, h2⟩, h3⟩ => ⟨i, h3.symm, h1, h2⟩, fun ⟨i, h3, h1, h2⟩ => ⟨i, ⟨h1, h2⟩, h3.symm⟩⟩
/-- the order of lists: shorter ones first, then by their numbers -/
def iy (a b : List Int) : Bool := decide (a.length < b.length) || (decide (a.length = b.length) && decide (fe a b < 0))
theorem ueu {a b : List Int} : iy a b = true ↔ a.length < b.length ∨ (a.length = b.length ∧ ltW a b) := by
 unfold iy
 rw [Bool.or_eq_true, Bool.and_eq_true, decide_eq_true_eq, decide_eq_true_eq, decide_eq_true_eq]
 constructor
 ·rintro (h | ⟨h1, h2⟩)
  ·exact .inl h
  ·exact .inr ⟨h1, (m8 h1).1 h2⟩
 ·rintro (h | ⟨h1, h2⟩)
  ·exact .inl h
  ·exact .inr ⟨h1, (m8 h1).2 h2⟩
theorem uev (a : List Int) : iy a a = false := by
 rw [← Bool.not_eq_true, ueu]
 rintro (h | ⟨_, h⟩)
 ·omega
 ·exact o4 a h
theorem unm {a b c : List Int} (h : iy a b = true) (k : iy b c = true) : iy a c = true := by
 rw [ueu] at *
 rcases h with h | ⟨h1, h2⟩
 ·rcases k with k | ⟨k1, _⟩
  ·exact .inl (by omega)
  ·exact .inl (by omega)
 ·rcases k with k | ⟨k1, k2⟩
  ·exact .inl (by omega)
  ·exact .inr ⟨by omega, qq h2 k2⟩
/-- what is found among the first sets -/
def ff (so : Nat → Bool) (n : Nat) : Nat → Option (List Int)
 | 0 => none
 | k + 1 => match ff so n k with
  | none => bif so k then some (e8 n k) else none
  | some b => bif so k && iy (e8 n k) b then some (e8 n k) else some b
def m9 (so : Nat → Bool) (n : Nat) : List Int := (ff so n (2 ^ n)).getD []
structure uof (so : Nat → Bool) (n k : Nat) (b : List Int) : Prop where
 get : ∃ s, s < k ∧ so s = true ∧ b = e8 n s
 min : ∀ s, s < k → so s = true → iy (e8 n s) b = false
theorem we (so : Nat → Bool) (n : Nat) : ∀ k, (ff so n k = none ∧ ∀ s, s < k → so s = false) ∨ ∃ b, ff so n k = some b ∧ uof so n k b
 | 0 => .inl ⟨rfl, fun s h => absurd h (Nat.not_lt_zero _)⟩
 | k + 1 => by
  rcases we so n k with ⟨h1, h2⟩ | ⟨b, h1, h2⟩
  ·simp only [ff, h1]
   cases hs : so k
   ·exact .inl ⟨rfl, fun s h => by
     by_cases e : s = k
     ·subst e; exact hs
     ·exact h2 s (by omega)⟩
   ·exact .inr ⟨_, rfl, ⟨k, by omega, hs, rfl⟩, fun s h hso => by
     by_cases e : s = k
     ·subst e; exact uev _
     ·rw [h2 s (by omega)] at hso; cases hso⟩
  ·simp only [ff, h1]
   right
   cases hs : so k && iy (e8 n k) b
   ·refine ⟨b, rfl, ?_, fun s h hso => ?_⟩
    ·obtain ⟨s, q1, q2, q3⟩ := h2.get
     exact ⟨s, by omega, q2, q3⟩
    ·by_cases e : s = k
     ·subst e
      rw [hso, Bool.true_and] at hs
      exact hs
     ·exact h2.min s (by omega) hso
   ·rw [Bool.and_eq_true] at hs
    refine ⟨_, rfl, ⟨k, by omega, hs.1, rfl⟩, fun s h hso => ?_⟩
    by_cases e : s = k
    ·subst e; exact uev _
    ·rw [← Bool.not_eq_true]
     intro hb
     have := unm hb hs.2
     rw [h2.min s (by omega) hso] at this
     cases this
theorem ues (so : Nat → Bool) (n : Nat) : (m9 so n).length ≤ n := by
 unfold m9
 rcases we so n (2 ^ n) with ⟨h, _⟩ | ⟨b, h, k⟩
 ·rw [h]; exact Nat.zero_le _
 ·rw [h]
  obtain ⟨s, _, _, rfl⟩ := k.get
  exact sn n s
theorem uer {so : Nat → Bool} {n k : Nat} (h : ff so n k = none) : ff so n (k + 1) = bif so k then some (e8 n k) else none := by simp only [ff, h]
theorem zi {so : Nat → Bool} {n k : Nat} {b : List Int} (h : ff so n k = some b) : ff so n (k + 1) = bif so k && iy (e8 n k) b then some (e8 n k) else some b := by simp only [ff, h]
/-! ### Lists of numbers that are looked up -/
def bp (n : Nat) (R : Nat → Int) : List Int := (List.range n).map R
theorem g6 (n : Nat) (R : Nat → Int) : (bp n R).length = n := by simp [bp]
theorem ja {n i : Nat} (R : Nat → Int) (h : i < n) : (bp n R)[i]? = some (R i) := by simp [bp, h]
theorem rp (n : Nat) (R : Nat → Int) : bp (n + 1) R = bp n R ++ [R n] := by
 unfold bp
 rw [List.range_succ, List.map_append]; rfl
theorem pj {n i : Nat} (R : Nat → Int) (v : Int) (h : i < n) : (bp n R).set i v = bp n fun k => bif decide (k = i) then v else R k := by
 apply List.ext_getElem?
 intro k
 rw [List.getElem?_set, g6]
 by_cases hk : k < n
 ·rw [ja (fun k => bif decide (k = i) then v else R k) hk, ja R hk]
  by_cases e : i = k
  ·subst e; rw [if_pos rfl, if_pos h, decide_eq_true rfl]; rfl
  ·rw [if_neg e, decide_eq_false (Ne.symm e)]; rfl
 ·rw [List.getElem?_eq_none (by rw [g6]; omega)]
  rw [if_neg (by omega), List.getElem?_eq_none (by rw [g6]; omega)]
theorem ug3 {n i : Nat} (R : Nat → Int) (h : i < n) : g8 (bp n R) i = R i := by unfold g8; rw [ja R h]; rfl
end Go.AB
namespace Go.AB
open Go Go.RowKit
open Go.AB.Enc (cells)
open Go.PB (ba ai PlaceD bh bk bj bw ar ah cw bv)
/-! ### All places are in order -/
theorem unv (t : ai) : (dn t).Pairwise fun a b => fe (c8 a) (c8 b) < 0 := by
 unfold dn
 rw [List.pairwise_map, List.pairwise_iff_getElem]
 intro i j hi hj hij
 have h1 := List.getElem?_eq_getElem hi
 have h2 := List.getElem?_eq_getElem hj
 have h := uj8 (ufe h1).1 (ufe h2).1
 rw [x6 h1 rfl, x6 h2 rfl] at h
 rw [m8 (by rfl), ← h]
 omega
theorem allQ_mem {t : ai} {q : PlaceD} : q ∈ dn t ↔ fp t q = true := allP_mem
theorem vy {t : ai} (f : PlaceD → Bool) : ((dn t).filter f).Pairwise fun a b => fe (c8 a) (c8 b) < 0 := (unv t).filter _
/-- places in order, of a text, are those of all places that are among them -/
theorem uhl {t : ai} {l : List PlaceD} (h : l.Pairwise fun a b => fe (c8 a) (c8 b) < 0) (hp : ∀ q ∈ l, fp t q = true) : l = (dn t).filter fun q => decide (q ∈ l) :=
 ui h (vy _) fun q => by
  rw [List.mem_filter, decide_eq_true_eq, allQ_mem]
  exact ⟨fun h => ⟨hp q h, h⟩, fun h => h.2⟩
theorem ul6 {t : ai} {x : ar} {r : Int} {l : List PlaceD} (h : g9 t x r l = true) : l = (dn t).filter fun q => decide (q ∈ l) := uhl (vx h) fun q hq => (l8 h hq).1
theorem lp {t : ai} {x : ar} {r : Int} {l : List PlaceD} (h : g9 t x r l = true) : l.length ≤ (dn t).length := by
 rw [ul6 h]
 exact List.length_filter_le _ _
theorem qy (t : ai) (x : ar) : (cp t x).length ≤ (dn t).length := List.length_filter_le _ _
theorem uen (t : ai) (x : ar) : (c9 t x).length ≤ (dn t).length := List.length_filter_le _ _
theorem t8 (t : ai) (x : ar) : dp t x ≤ (dn t).length := List.length_filter_le _ _
/-! ### How great numbers are -/
theorem xa {g : ar → Nat} {m : Nat} : ∀ {l : List ar}, (∀ x ∈ l, g x ≤ m) → cr l g ≤ l.length * m
 | [], _ => by simp [cr]
 | x :: l, h => by
  have h1 := xa (l := l) fun y hy => h y (List.mem_cons_of_mem _ hy)
  have h2 := h x (List.mem_cons_self ..)
  simp only [cr, List.map_cons, List.sum_cons, List.length_cons] at h1 ⊢
  rw [Nat.succ_mul]
  omega
theorem xy {p : ah} (h : ef p) (b : Bool) (i : Int) : cr p.pages (dh b i) ≤ 4800 := by
 have hq := lg h.text
 have h1 := xa (l := p.pages) (g := dh b i) (m := 600) fun x hx => by
  obtain ⟨j, hj⟩ := List.getElem?_of_mem hx
  have hp := pageB_true.1 (h.page j x hj)
  unfold dh
  cases decide (ec b x = i)
  ·exact Nat.zero_le _
  ·cases b
   ·have := lp hp.found
    show x.found.length ≤ 600
    omega
   ·have := lp hp.well
    show x.well.length ≤ 600
    omega
 have := h.np
 have h2 : p.pages.length * 600 ≤ 8 * 600 := Nat.mul_le_mul_right _ this
 omega
theorem xp {p : ah} (h : ef p) (b : Bool) (i : Int) : cr p.pages (dx p.text b i) ≤ 4800 := by
 have hq := lg h.text
 have h1 := xa (l := p.pages) (g := dx p.text b i) (m := 600) fun x hx => by
  have := qy p.text x
  unfold dx
  cases decide (ec b x = i)
  ·exact Nat.zero_le _
  ·show (cp p.text x).length ≤ 600
   omega
 have := h.np
 have h2 : p.pages.length * 600 ≤ 8 * 600 := Nat.mul_le_mul_right _ this
 omega
theorem yc {p : ah} (h : ef p) (b : Bool) (i : Nat) : 0 ≤ k6 p b i ∧ k6 p b i ≤ 90 := by
 unfold k6
 cases hr : (dv p b)[i]? with
 | none => exact ⟨Int.le_refl _, by show (0 : Int) ≤ 90; omega⟩
 | some r =>
  have hm := List.mem_of_getElem? hr
  have : gr r = true := h.rd r (by
   rw [List.mem_append]
   cases b
   ·exact .inl hm
   ·exact .inr hm)
  unfold gr at this
  rw [Bool.and_eq_true, inB_true, inB_true] at this
  exact this.2
theorem wc {p : ah} (h : ef p) (b : Bool) (i : Nat) : 0 ≤ ju p b i ∧ ju p b i ≤ 48000 := by
 have h1 := xy h b i
 have h2 := yc h b i
 unfold ju
 have h3 : (0 : Int) < 100 - k6 p b i := by omega
 refine ⟨Int.ediv_nonneg (by omega) (by omega), ?_⟩
 have h4 : 100 * ((cr p.pages (dh b i) : Nat) : Int) / (100 - k6 p b i) ≤ 100 * ((cr p.pages (dh b i) : Nat) : Int) / 10 := by
  refine Int.le_ediv_of_mul_le (by omega) ?_
  have h5 := Int.ediv_mul_le (100 * ((cr p.pages (dh b i) : Nat) : Int)) (show (100 - k6 p b i) ≠ 0 by omega)
  have h6 : 0 ≤ 100 * ((cr p.pages (dh b i) : Nat) : Int) / (100 - k6 p b i) := Int.ediv_nonneg (by omega) (by omega)
  have h7 : 100 * ((cr p.pages (dh b i) : Nat) : Int) / (100 - k6 p b i) * 10 ≤ 100 * ((cr p.pages (dh b i) : Nat) : Int) / (100 - k6 p b i) * (100 - k6 p b i) := Int.mul_le_mul_of_nonneg_left (by omega) h6
  omega
 omega
theorem ucz {p : ah} (h : ef p) (b : Bool) (i : Nat) : -4800 ≤ k9 p b i ∧ k9 p b i ≤ 48000 := by
 have h1 := wc h b i
 have h2 := xp h b i
 unfold k9
 omega
theorem ula {p : ah} (h : ef p) (i : Nat) : -4800 ≤ cy p i ∧ cy p i ≤ 48000 := by
 unfold cy
 cases decide (i < p.firsts.length)
 ·exact ucz h _ _
 ·exact ucz h _ _
theorem wb {p : ah} (h : ef p) (j : Nat) : 0 ≤ dd p j ∧ dd p j ≤ 600 := by
 refine ⟨p3 h j, ?_⟩
 have hq := lg h.text
 unfold dd ms
 cases hx : p.pages[j]? with
 | none => show (0 : Int) ≤ 600; omega
 | some x =>
  have := t8 p.text x
  show tj p.text x ≤ 600
  unfold tj
  omega
/-! ### What is told -/
def em (p : ah) (n : Int) : Int := bif decide (cx p = 0) then (bif inB n 0 ((p.pages.length : Int) - 1) then 0 else 2) else cx p
def fj (p : ah) (e : Int) : Int := bif decide (e = 0) then (bif ie p then 0 else 8) else e
def j8 (p : ah) (b : Bool) (n : Int) : Int := bif decide (cx p = 0) then (bif inB n 0 (((dv p b).length : Int) - 1) then 0 else 2) else cx p
def i7 (p : ah) (m : Int) : Int := bif decide (cx p = 0) then (bif decide (m < 0) then 2 else bif ie p then 0 else 8) else cx p
def atE {α : Type} (e : Int) (d v : α) : α := bif decide (e = 0) then v else d
def l4 (p : ah) (n : Int) : ar := (p.pages[n.toNat]?).getD ⟨0, 0, 0, 0, [], []⟩
def pi (p : ah) (n : Int) : Int := atE (em p n) 0 (dp p.text (l4 p n) : Int)
def o8 (p : ah) (n : Int) : List PlaceD := atE (em p n) [] (cp p.text (l4 p n))
def ra (p : ah) (n : Int) : List PlaceD := atE (em p n) [] (c9 p.text (l4 p n))
def n8 (p : ah) (b : Bool) (n : Int) : Int := atE (j8 p b n) 0 (ju p b n.toNat)
def m4 (p : ah) (n : Int) : Int := bif decide (em p n = 0) then (bif decide ((c9 p.text (l4 p n)).length = 0) then 6 else 0) else em p n
def yr (x : ar) (k : Nat) : bv := ⟨((x.found.length * x.well.length / k : Nat) : Int), (((x.found.length * x.well.length + k - 1) / k : Nat) : Int)⟩
def n1 (p : ah) (n : Int) : bv := atE (m4 p n) ⟨0, 0⟩ (yr (l4 p n) (c9 p.text (l4 p n)).length)
def nm (p : ah) (n : Int) : bv := atE (fj p (em p n)) ⟨0, 0⟩ ⟨0, (bt p).alone (cy p) (dd p) n.toNat⟩
def qe (p : ah) : Int := (bt p).most (cy p) (dd p)
def qd (p : ah) : bv := atE (fj p (cx p)) ⟨0, 0⟩ ⟨0, qe p⟩
def fw (p : ah) : Nat → Int := (bt p).worst (cy p) (dd p)
def ne (p : ah) : List Int := atE (fj p (cx p)) [] (bp p.pages.length (fw p))
def qb (p : ah) (s : Nat) : Bool := decide ((bt p).f (cy p) (dd p) (fun i => s.testBit i) = qe p)
def ib (p : ah) : List Int := m9 (qb p) (cj p)
def ng (p : ah) (l : List Int) : List Int := l.filter fun k => decide (k < (p.firsts.length : Int))
def mn (p : ah) (l : List Int) : List Int := (l.filter fun k => !decide (k < (p.firsts.length : Int))).map fun k => k - (p.firsts.length : Int)
def ki (C : Nat → Int) (l : List Int) (j : Nat) : Int := bif decide ((j : Int) ∈ l) then 0 else C j
def ufg (p : ah) (l : List Int) : Int := (bt p).most (cy p) (ki (dd p) l)
def ti (p : ah) (m : Int) (s : Nat) : Bool := decide (ufg p (e8 p.pages.length s) ≤ m)
def j3 (p : ah) (m : Int) : List Int := atE (i7 p m) [] (m9 (ti p m) p.pages.length)
end
theorem ufr (C : Nat → Int) : ki C [] = C := by funext j; simp [ki]
theorem ufq (C : Nat → Int) (l : List Int) (i : Nat) : ki C (l ++ [(i : Int)]) = d7 (ki C l) i := by
 funext j
 unfold ki d7
 by_cases e : j = i
 ·subst e; simp
 ·rw [decide_eq_false e, cond_false]
  congr 1
  rw [decide_eq_decide, List.mem_append, List.mem_singleton]
  constructor
  ·rintro (h | h)
   ·exact h
   ·omega
  ·exact .inl
theorem uk5 (N : Net) (R : Nat → Int) (j : Nat) : N.lessR R j 0 = R := by
 funext i
 unfold Net.lessR
 cases N.by j i <;> simp
theorem qc {p : ah} (h : ie p = true) : ∀ i, i < (bt p).nr → 0 ≤ cy p i := fun i hi => by
 have := List.all_eq_true.1 h i (List.mem_range.2 hi)
 exact of_decide_eq_true this
end Go.AB
namespace Go.AB
open Go Go.RowKit
open Go.AB.Enc (cells)
open Go.PB (ba ai PlaceD bh bk bj bw ar ah cw bv)
/-! ### Readers who miss less -/
end Go.AB
namespace Go.AB
open Go Go.RowKit
open Go.AB.Enc (cells)
open Go.PB (ba ai PlaceD bh bk bj bw ar ah cw bv)
end Go.AB
namespace Go.AB
open Go Go.RowKit
open Go.AB.Enc (cells)
open Go.PB (ba ai PlaceD bh bk bj bw ar ah cw bv)
end Go.AB
namespace Go.AB
open Go Go.RowKit
open Go.AB.Enc (cells)
open Go.PB (ba ai PlaceD bh bk bj bw ar ah cw bv)
end Go.AB
namespace Go.AB
open Go Go.RowKit
open Go.AB.Enc (cells)
open Go.PB (ba ai PlaceD bh bk bj bw ar ah cw bv)
/-- as much as can be on a page, if nothing is lost by it -/
theorem Net.pick_alone {N : Net} {R C : Nat → Int} {j : Nat} (h0 : 0 ≤ N.alone R C j) (h : N.most R C ≤ N.alone R C j + N.most (N.lessR R j (N.alone R C j)) (d7 C j)) : N.pick R C j = N.alone R C j :=
 Net.pick_eq ⟨h0, Int.le_refl _, h, fun m h1 h2 => by omega⟩
def mi : ByteArray := ⟨#[116, 104, 101]⟩
def i3 : ByteArray := ⟨#[115, 101, 97]⟩
def xIs : ByteArray := ⟨#[105, 115]⟩
def mj : ByteArray := ⟨#[111, 108, 100]⟩
def rj : ByteArray := ⟨#[97, 110, 100]⟩
def exTx : ai := [⟨7, [[mi, i3, xIs, mj], [mj, mi, i3]]⟩, ⟨3, [[i3, rj, i3]]⟩]
def exPg : List ar := [⟨0, 0, 0, 0, [⟨0, 0, 0⟩], [⟨0, 0, 0⟩, ⟨0, 0, 3⟩]⟩, ⟨1, 2, 0, -1, [⟨0, 1, 1⟩], []⟩]
def exPr : ah := ⟨exTx, [⟨1, 50⟩, ⟨2, 0⟩], [⟨3, 60⟩], exPg⟩
theorem tx : fj exPr (cx exPr) = 0 := by decide +kernel
theorem xp_words : pi exPr 1 = 6 ∧ em exPr 1 = 0 ∧ pi exPr 0 = 4 ∧ em exPr 0 = 0 := ⟨by decide +kernel, by decide +kernel, by decide +kernel, by decide +kernel⟩
theorem xp_found : o8 exPr 0 = [⟨0, 0, 0⟩, ⟨0, 0, 3⟩] ∧ ra exPr 0 = [⟨0, 0, 0⟩] := ⟨by decide +kernel, by decide +kernel⟩
theorem xp_guess : n1 exPr 0 = ⟨2, 2⟩ ∧ m4 exPr 0 = 0 := ⟨by decide +kernel, by decide +kernel⟩
theorem xp_remain : nm exPr 1 = ⟨0, 1⟩ ∧ fj exPr (em exPr 1) = 0 ∧ nm exPr 0 = ⟨0, 1⟩ ∧ fj exPr (em exPr 0) = 0 := ⟨by decide +kernel, by decide +kernel, by decide +kernel, by decide +kernel⟩
theorem uft : qd exPr = ⟨0, 1⟩ := by decide +kernel
theorem xp_why : ng exPr (ib exPr) = [0] ∧ mn exPr (ib exPr) = [] := ⟨by decide +kernel, by decide +kernel⟩
theorem xp_bound : n8 exPr false 0 = 4 ∧ j8 exPr false 0 = 0 ∧ n8 exPr false 1 = 0 ∧ j8 exPr false 1 = 0 ∧ n8 exPr true 0 = 5 ∧ j8 exPr true 0 = 0 := ⟨by decide +kernel, by decide +kernel, by decide +kernel, by decide +kernel, by decide +kernel, by decide +kernel⟩
theorem xp_chief : j3 exPr 0 = [0, 1] ∧ i7 exPr 0 = 0 ∧ j3 exPr 1 = [] ∧ i7 exPr 1 = 0 := ⟨by decide +kernel, by decide +kernel, by decide +kernel, by decide +kernel⟩
theorem ufs : ne exPr = [1, 0] := by
 have h0 : fw exPr 0 = 1 := by
  have := Net.pick_alone (N := bt exPr) (R := cy exPr) (C := dd exPr) (j := 0) (by decide +kernel) (by decide +kernel)
  exact this.trans (by decide +kernel)
 have h1 : fw exPr 1 = 0 := by
  have e : fw exPr 1 = (bt exPr).pick ((bt exPr).lessR (cy exPr) 0 1) (d7 (dd exPr) 0) 1 := by
   show (bt exPr).pick ((bt exPr).lessR (cy exPr) 0 (fw exPr 0)) (d7 (dd exPr) 0) 1 = _
   rw [h0]
  have := Net.pick_alone (N := bt exPr) (R := (bt exPr).lessR (cy exPr) 0 1) (C := d7 (dd exPr) 0) (j := 1) (by decide +kernel) (by decide +kernel)
  exact e.trans (this.trans (by decide +kernel))
 unfold ne
 rw [tx]
 show [fw exPr 0, fw exPr 1] = _
 rw [h0, h1]
end Go.AB
namespace Go.AB
open Go Go.RowKit
open Go.AB.Enc (cells)
open Go.PB (ba ai PlaceD bh bk bj bw ar ah cw bv)
/-- who is found by one reader alone, so far -/
def gi (F W : List PlaceD) (q : PlaceD) : Bool := decide (q ∈ F) != decide (q ∈ W)
theorem uj4 (F : List PlaceD) (q : PlaceD) : gi F [] q = decide (q ∈ F) := by simp [gi]
theorem xc {l : List PlaceD} (h : l.Pairwise fun a b => fe (c8 a) (c8 b) < 0) : l.Nodup := h.imp fun {a b} hab e => by
 rw [m8 (by rfl)] at hab
 subst e
 exact o4 _ hab
theorem ug2 {l : List PlaceD} (h : l.Nodup) {k : Nat} {q : PlaceD} (hq : l[k]? = some q) : q ∉ l.take k := fun hm => by
 obtain ⟨i, hi⟩ := List.getElem?_of_mem hm
 have hik : i < k := by have := (List.getElem?_eq_some_iff.1 hi).1; rw [List.length_take] at this; omega
 rw [List.getElem?_take_of_lt hik] at hi
 obtain ⟨h1, h2⟩ := List.getElem?_eq_some_iff.1 hi
 obtain ⟨h3, h4⟩ := List.getElem?_eq_some_iff.1 hq
 have := (List.pairwise_iff_getElem.1 h) i k h1 h3 hik
 exact this (h2.trans h4.symm)
/-- the place at hand is in the map if the first reader found it -/
theorem uw {F W : List PlaceD} (hW : W.Nodup) {k : Nat} {q : PlaceD} (hq : W[k]? = some q) : gi F (W.take k) q = decide (q ∈ F) := by
 unfold gi
 rw [decide_eq_false (ug2 hW hq)]
 cases decide (q ∈ F) <;> rfl
theorem ub1 {F W : List PlaceD} (hW : W.Nodup) {k : Nat} {q : PlaceD} (hq : W[k]? = some q) (x : PlaceD) : gi F (W.take (k + 1)) x = bif decide (x = q) then !decide (q ∈ F) else gi F (W.take k) x := by
 have hm : decide (x ∈ W.take (k + 1)) = (decide (x ∈ W.take k) || decide (x = q)) := by
  rw [List.take_add_one, hq, Option.toList_some, Bool.eq_iff_iff]
  simp
 by_cases e : x = q
 ·subst e
  unfold gi
  rw [hm, decide_eq_true (rfl : x = x), Bool.or_true, cond_true]
  cases decide (x ∈ F) <;> rfl
 ·unfold gi
  rw [hm, decide_eq_false e, Bool.or_false, cond_false]
/-- what both found so far -/
def mf (F W : List PlaceD) (k : Nat) : List PlaceD := (W.take k).filter fun q => decide (q ∈ F)
theorem uel {F W : List PlaceD} {k : Nat} {q : PlaceD} (hq : W[k]? = some q) : mf F W (k + 1) = mf F W k ++ bif decide (q ∈ F) then [q] else [] := by
 unfold mf
 rw [List.take_add_one, hq, Option.toList_some, List.filter_append]
 cases h : decide (q ∈ F) <;> simp [h]
theorem uem (F W : List PlaceD) (k : Nat) : (mf F W k).length ≤ W.length := by
 unfold mf
 have := List.length_filter_le (fun q => decide (q ∈ F)) (W.take k)
 rw [List.length_take] at this
 omega
theorem und {p : ah} {last : Int} {x : ar} (h : nd p last x) : mf x.found x.well x.well.length = c9 p.text x := by
 have hs : (mf x.found x.well x.well.length).Pairwise fun a b => fe (c8 a) (c8 b) < 0 := by
  unfold mf
  rw [List.take_length]
  exact (vx h.well).filter _
 refine ui hs (vy _) fun q => ?_
 unfold mf
 rw [List.take_length, List.mem_filter, decide_eq_true_eq]
 show _ ↔ q ∈ (dn p.text).filter _
 rw [List.mem_filter, Bool.and_eq_true, decide_eq_true_eq, decide_eq_true_eq, allQ_mem]
 exact ⟨fun ⟨h1, h2⟩ => ⟨(l8 h.well h1).1, h2, h1⟩, fun ⟨_, h2, h3⟩ => ⟨h3, h2⟩⟩
/-- both's places, and those of one alone in any order, put in order: all that are found -/
theorem ue7 {p : ah} {last : Int} {x : ar} (h : nd p last x) {ks s : List PlaceD} (hn : ks.Nodup) (hk : ∀ q, q ∈ ks ↔ gi x.found x.well q = true) (hp : s.Perm (c9 p.text x ++ ks)) (hs : s.Pairwise fun a b => ¬ fe (c8 b) (c8 a) < 0) : s = cp p.text x := by
 have hmb : ∀ q, q ∈ c9 p.text x ↔ q ∈ x.found ∧ q ∈ x.well := fun q => by
  show q ∈ (dn p.text).filter _ ↔ _
  rw [List.mem_filter, Bool.and_eq_true, decide_eq_true_eq, decide_eq_true_eq, allQ_mem]
  exact ⟨fun h => h.2, fun h2 => ⟨(l8 h.well h2.2).1, h2⟩⟩
 have hko : ∀ q, gi x.found x.well q = true ↔ (q ∈ x.found ∧ q ∉ x.well) ∨ (q ∉ x.found ∧ q ∈ x.well) := fun q => by
  unfold gi
  by_cases h1 : q ∈ x.found <;> by_cases h2 : q ∈ x.well <;> simp [h1, h2]
 have hnd : (c9 p.text x ++ ks).Nodup := by
  rw [List.nodup_append]
  refine ⟨xc (vy _), hn, fun a ha b hb e => ?_⟩
  subst e
  have h1 := (hmb a).1 ha
  rcases (hko a).1 ((hk a).1 hb) with h2 | h2
  ·exact h2.2 h1.2
  ·exact h2.1 h1.1
 have hsn : s.Nodup := hp.nodup_iff.2 hnd
 have hs2 : s.Pairwise fun a b => fe (c8 a) (c8 b) < 0 := by
  have := List.Pairwise.and hs hsn
  refine this.imp fun {a b} hab => ?_
  rw [m8 (by rfl)] at hab ⊢
  refine Classical.byContradiction fun hno => hab.2 ?_
  exact uln (yg (by rfl) hno hab.1)
 refine ui hs2 (vy _) fun q => ?_
 rw [hp.mem_iff, List.mem_append, hmb, hk, hko]
 show _ ↔ q ∈ (dn p.text).filter _
 rw [List.mem_filter, Bool.or_eq_true, decide_eq_true_eq, decide_eq_true_eq, allQ_mem]
 constructor
 ·rintro (⟨h1, h2⟩ | ⟨h1, _⟩ | ⟨_, h2⟩)
  ·exact ⟨(l8 h.found h1).1, .inl h1⟩
  ·exact ⟨(l8 h.found h1).1, .inl h1⟩
  ·exact ⟨(l8 h.well h2).1, .inr h2⟩
 ·rintro ⟨_, h1 | h1⟩
  ·by_cases h2 : q ∈ x.well
   ·exact .inl ⟨h1, h2⟩
   ·exact .inr (.inl ⟨h1, h2⟩)
  ·by_cases h2 : q ∈ x.found
   ·exact .inl ⟨h2, h1⟩
   ·exact .inr (.inr ⟨h2, h1⟩)
/-! ### The words of a page, line by line -/
def f7 (t : ai) (x : ar) (l : List PlaceD) : Nat := (l.filter (fl t x)).length
theorem uaa (t : ai) (x : ar) {k n : Nat} {c : ba} {l : List ByteArray} (hn : c.lines[n]? = some l) : f7 t x (gu t k c.lines (n + 1)) = f7 t x (gu t k c.lines n) + bif inB ((fy t k : Int) + (n : Int)) x.fr x.to then l.length else 0 := by
 have e : gu t k c.lines (n + 1) = gu t k c.lines n ++ (jx k n l).map (·.1) := by
  unfold gu
  rw [zf k hn, List.map_append, List.append_assoc]
 unfold f7
 rw [e, List.filter_append, List.length_append]
 congr 1
 have hall : ∀ q ∈ (jx k n l).map (·.1), fl t x q = inB ((fy t k : Int) + (n : Int)) x.fr x.to := fun q hq => by
  obtain ⟨y, hy, rfl⟩ := List.mem_map.1 hq
  obtain ⟨w, hw, rfl⟩ := List.mem_mapIdx.1 hy
  show inB (pt t ⟨(k : Int), (n : Int), (w : Int)⟩) x.fr x.to = _
  unfold pt
  dsimp only
  rw [Int.toNat_natCast, Int.add_comm]
 have hlen : ((jx k n l).map (·.1)).length = l.length := by rw [List.length_map]; unfold jx; rw [List.length_mapIdx]
 cases hb : inB ((fy t k : Int) + (n : Int)) x.fr x.to
 ·rw [List.filter_eq_nil_iff.2 fun q hq => by rw [hall q hq, hb]; simp]; rfl
 ·rw [List.filter_eq_self.2 fun q hq => by rw [hall q hq, hb], hlen]; rfl
theorem uf6 (t : ai) (x : ar) : f7 t x (dn t) = dp t x := rfl
end Go.AB
namespace Go.AB
open Go Go.RowKit
open Go.AB.Enc (cells)
open Go.PB (ba ai PlaceD bh bk bj bw ar ah cw bv)
section
variable {N : Net} {R C : Nat → Int}
theorem Net.Feas.congr {y z : Nat → Int} (h : N.Feas R C y) (e : ∀ j, j < N.np → y j = z j) : N.Feas R C z := by
 refine ⟨fun j hj => by rw [← e j hj]; exact h.page j hj, fun i hi => ?_⟩
 have : sm N.np (fun j => bif N.by j i then z j else 0) = sm N.np (fun j => bif N.by j i then y j else 0) := io fun j hj => by rw [e j hj]
 rw [this]
 exact h.rd i hi
/-- less may remain -/
theorem Net.Feas.down {y z : Nat → Int} (h : N.Feas R C y) (e : ∀ j, j < N.np → 0 ≤ z j ∧ z j ≤ y j) : N.Feas R C z := by
 refine ⟨fun j hj => ⟨(e j hj).1, Int.le_trans (e j hj).2 (h.page j hj).2⟩, fun i hi => Int.le_trans (mp fun j hj => ?_) (h.rd i hi)⟩
 cases N.by j i
 ·exact Int.le_refl _
 ·exact (e j hj).2
theorem Net.feas_zero (hR : ∀ i, i < N.nr → 0 ≤ R i) (hC : ∀ j, j < N.np → 0 ≤ C j) : N.Feas R C fun _ => 0 := by
 refine ⟨fun j hj => ⟨Int.le_refl _, hC j hj⟩, fun i hi => ?_⟩
 have : sm N.np (fun j => bif N.by j i then (0 : Int) else 0) = 0 := (io (h := fun _ => 0) fun j _ => by cases N.by j i <;> rfl).trans (l3 _)
 rw [this]
 exact hR i hi
theorem Net.alone_nn (hN : N.Ok) {i : Nat} (hi : i < N.np) (hR : ∀ i, i < N.nr → 0 ≤ R i) (hC : ∀ j, j < N.np → 0 ≤ C j) : 0 ≤ N.alone R C i := Net.le_alone.2 ⟨hC i hi, fun r hr => hR r (hN.by_lt hr)⟩
end
theorem uad {p : ah} (h : ef p) (y : Nat → Int) : jm p (bp p.pages.length fun j => dl p j + y j) = true ↔ (bt p).Feas (cy p) (dd p) y := by
 have e : ∀ j, j < p.pages.length → g8 (bp p.pages.length fun j => dl p j + y j) j - dl p j = y j := fun j hj => by
  rw [ug3 _ hj]; omega
 rw [ugq h]
 exact ⟨fun k => k.2.congr e, fun k => ⟨g6 _ _, k.congr fun j hj => (e j hj).symm⟩⟩
/-- without a truth nothing that is told is one -/
theorem ugu {p : ah} (h : ef p) : jm p (bp p.pages.length (dl p)) = ie p := by
 have e : (dl p) = fun j => dl p j + (fun _ => (0 : Int)) j := by funext j; simp
 rw [Bool.eq_iff_iff, e, uad h]
 constructor
 ·intro k
  refine List.all_eq_true.2 fun i hi => decide_eq_true ?_
  have := k.rd i (List.mem_range.1 hi)
  rwa [(io (h := fun _ => 0) fun j _ => by cases (bt p).by j i <;> rfl).trans (l3 _)] at this
 ·exact fun k => Net.feas_zero (qc k) fun j _ => p3 h j
end Go.AB
namespace Go.PB
structure dc where
 readers : List Int
 pages : List Int
 read : List (List Int)
/-- the reference's: readers and pages alone -/
structure dg where
 readers : List Int
 pages : List Int
end Go.PB
namespace Go.AB
open Go Go.RowKit
open Go.AB.Enc (cells)
open Go.PB (ba ai PlaceD bh bk bj bw ar ah cw bv dc dg)
instance : Enc dc := ⟨fun x => [lst x.readers, lst x.pages, lst x.read], 3, fun _ => rfl, fun m x c h => by
 simp only [List.mem_cons, List.not_mem_nil, or_false] at h
 rcases h with rfl | rfl | rfl
 ·exact b9 m _
 ·exact b9 m _
 ·exact b9 m _, fun x c h => by
 simp only [List.mem_cons, List.not_mem_nil, or_false] at h; rcases h with rfl | rfl | rfl <;> rfl⟩
def gh (p : ah) (R C : Nat → Int) : dc := ⟨bp (cj p) R, bp p.pages.length C, p.pages.map (du p)⟩
/-- numbers that no sum of takes too far -/
structure Bd (p : ah) (R C : Nat → Int) : Prop where
 r : ∀ i, -1000000 ≤ R i ∧ R i ≤ 1000000
 c : ∀ j, 0 ≤ C j ∧ C j ≤ 1000000
 nr : cj p ≤ 6
 np : p.pages.length ≤ 8
theorem tm {p : ah} (h : ef p) : Bd p (cy p) (dd p) := ⟨fun i => by have := ula h i; omega, fun j => by have := wb h j; omega, by have := h.nf; have := h.ns; unfold cj; omega, h.np⟩
/-- what some first readers of a set have -/
def fR (R : Nat → Int) (S : Nat → Bool) (i : Nat) : Int := sm i fun k => bif S k then R k else 0
def fC (p : ah) (C : Nat → Int) (S : Nat → Bool) (j : Nat) : Int := sm j fun k => bif (bt p).hit S k then 0 else C k
theorem udu (p : ah) (R C : Nat → Int) (S : Nat → Bool) : (bt p).f R C S = fR R S (cj p) + fC p C S p.pages.length := rfl
theorem xe {g : Nat → Int} {m : Int} (h : ∀ i, -m ≤ g i ∧ g i ≤ m) : ∀ n : Nat, -(n * m) ≤ sm n g ∧ sm n g ≤ n * m
 | 0 => by simp [sm]
 | n + 1 => by
  have h1 := xe h n
  have h2 := h n
  have e : ((n + 1 : Nat) : Int) * m = (n : Int) * m + m := by rw [Int.natCast_add, Int.add_mul]; simp
  simp only [sm]
  omega
theorem y7 {p : ah} {R C : Nat → Int} (h : Bd p R C) (S : Nat → Bool) (i : Nat) (hi : i ≤ cj p) : -6000000 ≤ fR R S i ∧ fR R S i ≤ 6000000 := by
 have := xe (g := fun k => bif S k then R k else 0) (m := 1000000) (fun k => by cases S k; simp; exact h.r k) i
 have := h.nr
 unfold fR
 omega
theorem udz {p : ah} {R C : Nat → Int} (h : Bd p R C) (S : Nat → Bool) (j : Nat) (hj : j ≤ p.pages.length) : 0 ≤ fC p C S j ∧ fC p C S j ≤ 8000000 := by
 have h1 := xe (g := fun k => bif (bt p).hit S k then 0 else C k) (m := 1000000) (fun k => by have := h.c k; cases (bt p).hit S k; simp; omega; simp) j
 have h2 := uj (n := j) (g := fun k => bif (bt p).hit S k then 0 else C k) fun k _ => by have := h.c k; cases (bt p).hit S k; exact this.1; exact Int.le_refl _
 have := h.np
 unfold fC
 omega
theorem f_bd {p : ah} {R C : Nat → Int} (h : Bd p R C) (S : Nat → Bool) : -6000000 ≤ (bt p).f R C S ∧ (bt p).f R C S ≤ 14000000 := by
 have h1 := y7 h S _ (Nat.le_refl _)
 have h2 := udz h S _ (Nat.le_refl _)
 rw [udu]
 omega
theorem ucn {g : Nat → Int} {a b : Int} (h : ∀ s, a ≤ g s ∧ g s ≤ b) (k : Nat) : a ≤ ll g k ∧ ll g k ≤ b := by
 obtain ⟨s, _, e⟩ := yd (g := g) k
 rw [e]
 exact h s
theorem ucg {p : ah} {R C : Nat → Int} (h : Bd p R C) : -6000000 ≤ (bt p).most R C ∧ (bt p).most R C ≤ 14000000 := ucn (fun s => f_bd h _) _
end Go.AB
namespace Go.AB
open Go Go.RowKit
open Go.AB.Enc (cells)
section
variable {P : Program} {o : Oper} {st : St} {K : St → Prop}
end
end Go.AB
namespace Go.AB
open Go Go.RowKit Go.Shelf Go.Proofs
open Go.AB.Enc (cells)
section
variable {P : Program} {o : Oper} {st : St} {K : St → Prop}
theorem ujw {E : Env} {w : World} {v : Value} {n ver len : Nat} (hp : R E w (.own n ver len) v) : ∃ a cap, v = .slice a len cap ∧ n < E.nx ∧ len ≤ cap ∧ cap ≤ maxLen ∧ ∀ ver' wv val, E.T n = some (ver', wv, val) → ver ≤ ver' ∧ (ver = ver' → ∃ m, len ≤ m ∧ val = .slice a m cap) := by
 cases hp with
 | own h1 h2 h3 h4 => exact ⟨_, _, rfl, h1, h2, h3, h4⟩
/-- append of nothing onto an own slice. -/
theorem ukm {t e : TypeId} {sz bytes n ver m : Nat} [AppT P t e sz bytes] {s x : Operand} {tk : Tok} (ho : o.op = .call { callee := .builtin .append, args := #[s, x], argTypes := #[t, t] }) (hs : evC st s = .own n ver m) (hx : evC st x = .list [] tk) : NStep P o st (.own n ver m) := fun E w a hsim => by
 obtain ⟨ht, i, z, hie, hz, h1, h2, h3⟩ := AppT.spec (P := P) (t := t) (e := e) (sz := sz) (bytes := bytes)
 have hown := hs ▸ hsim.ev s
 obtain ⟨ad, cap, e1, q1, q2, q3, q4⟩ := ujw hown
 obtain ⟨ao, c, _, _, e3, _⟩ := (hx ▸ hsim.ev x).list_inv
 refine ⟨a.eval s, hown, fun w' => ?_⟩
 have hrun := rx (P := P) w' t o.type e i ht hie ad ao m cap c q2
 simp only [execOp, ho, resolve, invoke, builtin, Sem.run_bind, Sem.run_pure, Result.andThen_ok, List.map_toArray, List.map_cons, List.map_nil, e1, e3]
 rw [List.length_nil] at *
 rw [hrun]; rfl
/-- append of data onto an own slice. -/
theorem th {α : Type} [Enc α] {t e : TypeId} {bytes n ver wv : Nat} [AppT P t e (Enc.n α) bytes] {s x : Operand} {tk : Tok} {rows : List (List C)} {xs : List α} {m : Nat} {cs : List C} (ys : List α) (ho : o.op = .call { callee := .builtin .append, args := #[s, x], argTypes := #[t, t] }) (hs : evC st s = .own n ver m) (hG : st.G n = some (.arr ver wv e (Enc.n α) m cs)) (hc : cs = c5 xs) (hm : m = xs.length) (hx : evC st x = .list rows tk) (hy : rows = ys.map cells) (hb : (xs.length + ys.length) * bytes ≤ 140737488355328) (hmax : xs.length + ys.length ≤ 9223372036854775807)
  (h : ∀ v : Nat, K (St.put { st with G := am st.G n (.arr v wv e (Enc.n α) (xs ++ ys).length (c5 (xs ++ ys))) } o.dst (.own n v (xs ++ ys).length))) : EStep P o st K := by
 subst hc; subst hm; subst hy
 by_cases h0 : ys = []
 ·subst h0
  have h1 := h ver
  simp only [List.append_nil] at h1
  have h2 : am st.G n (.arr ver wv e (Enc.n α) xs.length (c5 xs)) = st.G := by
   funext k
   simp only [am]
   split
   ·rename_i e; rw [e, hG]
   ·rfl
  rw [h2] at h1
  exact SStep.e' (NStep.s (D := fun _ => True) (ukm ho hs hx)) h1
 ·refine ump ho hs hG hx (lm ys) (by simpa using hb) (by simpa using hmax) (by simpa using h0) ?_
  have h1 := h (ver + 1)
  rw [udo] at h1
  simpa [c5] using h1
end
end Go.AB
namespace Go.AB
open Go Go.RowKit
open Go.AB.Enc (cells)
open Go.PB (ba ai PlaceD bh bk bj bw ar ah cw bv dc dg)
/-- the first of some numbers that is not nought -/
def orN (xs : List Int) : Int := (xs.find? fun x => !decide (x = 0)).getD 0
theorem ujy {xs : List Int} {k : Nat} {x : Int} (hx : xs[k]? = some x) (hne : x ≠ 0) (h : ∀ y ∈ xs.take k, y = 0) : orN xs = x := by
 unfold orN
 rw [List.find?_eq_some_iff_append.2 ⟨by simpa using hne, xs.take k, xs.drop (k + 1), ?_, fun y hy => by simp [h y hy]⟩]
 ·rfl
 obtain ⟨h1, h2⟩ := List.getElem?_eq_some_iff.1 hx
 rw [← h2, ← List.drop_eq_getElem_cons h1, List.take_append_drop]
theorem uj0 {xs : List Int} (h : ∀ y ∈ xs, y = 0) : orN xs = 0 := by
 unfold orN
 rw [List.find?_eq_none.2 fun y hy => by simp [h y hy]]
 rfl
theorem ukr {α : Type} {l : List α} {k : Nat} {x : α} {p : α → Prop} (hx : l[k]? = some x) (hp : p x) (h : ∀ y ∈ l.take k, p y) : ∀ y ∈ l.take (k + 1), p y := fun y hy => by
 rw [List.take_add_one, hx] at hy
 simp only [Option.toList_some, List.mem_append, List.mem_singleton] at hy
 rcases hy with hy | rfl
 ·exact h y hy
 exact hp
def lk (a b : PlaceD) : Int := fe (c8 a) (c8 b)
theorem ujz (a b : PlaceD) : orN [im a.ch b.ch, im a.ln b.ln, im a.wd b.wd] = lk a b := by
 unfold orN lk c8
 simp only [fe]
 by_cases h1 : im a.ch b.ch = 0
 ·by_cases h2 : im a.ln b.ln = 0
  ·by_cases h3 : im a.wd b.wd = 0 <;> simp [h1, h2, h3]
  simp [h1, h2]
 simp [h1]
/-- the order of lists, shorter ones first -/
def xg (a b : List Int) : Int := orN [(a.length : Int) - (b.length : Int), fe a b]
theorem ul (a b : List Int) : decide (xg a b < 0) = iy a b := by
 unfold xg orN iy
 by_cases h1 : (a.length : Int) - (b.length : Int) = 0
 ·have h2 : a.length = b.length := by omega
  have h3 : ¬ a.length < b.length := by omega
  by_cases h4 : fe a b = 0
  ·simp [h2, h4]
  simp [h2, h4]
 have h2 : ¬ a.length = b.length := by omega
 by_cases h3 : a.length < b.length
 ·have : (a.length : Int) - (b.length : Int) < 0 := by omega
  simp [h1, h2, h3, this]
 have : ¬ (a.length : Int) - (b.length : Int) < 0 := by omega
 simp [h1, h2, h3, this]
def lz (t : ai) (k : Nat) : List Int := (List.range k).map fun i => (fy t i : Int)
theorem uak (t : ai) (k : Nat) : (lz t k).length = k := by simp [lz]
theorem ual {t : ai} {k i : Nat} (h : i < k) : (lz t k)[i]? = some (fy t i : Int) := by simp [lz, h]
theorem uhj (t : ai) (k : Nat) : lz t (k + 1) = lz t k ++ [(fy t k : Int)] := by
 unfold lz
 rw [List.range_succ, List.map_append]; rfl
theorem ug {t : ai} (ht : dr t = true) (k : Nat) (hk : k ≤ t.length) : fy t k ≤ 60 := by
 obtain ⟨h1, h2, h3⟩ := ko ht
 have key : ∀ k, k ≤ t.length → fy t k ≤ 10 * k := by
  intro k
  induction k with
  | zero => intro _; rw [uam]; exact Nat.zero_le _
  | succ k ih =>
   intro hk
   have hc : t[k]? = some t[k] := List.getElem?_eq_getElem (by omega)
   rw [rq hc]
   have := ih (by omega)
   have := (h3 _ (f5 hc)).2.1
   omega
 have := key k hk
 omega
end Go.AB
namespace Go.Proofs.YtbbdginipiljdaaGreatDoor
set_option maxRecDepth 10000
open Go.RowKit Go.AB
open Go.AB.Enc (cells)
open Go.PB (ba ai PlaceD bh bk bj bw ar ah cw bv dc dg)
theorem ubs (xs : List Int) : Pure Tryz.prog 92 [lst xs] (.v (.int .i64 (orN xs))) := by
 refine c4 Tryz.func92 rfl (fun m => .v) fun G nx => ?_
 simp only [Tryz.ntmps92, List.length_cons, List.length_nil, Nat.reduceAdd, Nat.reduceSub]
 refine bx fun hlt => ?_
 dsimp only at hlt
 refine kh 0 (fun hf => ?_)
 replace hf := (fit_lst.1 hf).1
 refine yS fun _ K1 => ?_
 refine yR ?_
 refine yA rfl rfl ?_
 refine yN ?_
 dsimp only [St.put]
 refine K1 _ ?_
 refine yS fun _ K2 => ?_
 refine yR ?_
 refine yA rfl rfl ?_
 refine yN ?_
 dsimp only [St.put]
 refine K2 _ ?_
 refine yS fun _ K3 => ?_
 refine yS fun _ K4 => ?_
 refine yR ?_
 refine yM rfl rfl ?_
 refine aa rfl (bi rfl rfl (List.length_map _)) ?_
 refine yM rfl rfl ?_
 refine yN ?_
 dsimp only [St.put]
 refine K4 _ ?_
 refine bf ?_
 refine co 9 ?_
 refine zQ ?_
 refine c7 (G) zX ?_
 dsimp only
 refine c6 (X := Nat) (fun k => k ≤ xs.length ∧ ∀ y ∈ xs.take k, y = 0) (fun k => xs.length - k) (fun k => [(4, .any), (5, .any), (8, .v (.int .i64 (k : Int)))]) (fun k G' => G') 0 rfl ?_ ?_ (fun _ _ h => h) ?_ ?_ ?_
 ·exact ⟨by simp, by simp⟩
 ·exact zF
 ·rintro k hI
  exact zL
 ·exact fun _ _ _ _ h => .inl h
 rintro k hI
 dsimp only at hI ⊢
 refine yS fun _ K5 => ?_
 refine yR ?_
 refine aa rfl (cn rfl rfl rfl) ?_
 refine yN ?_
 dsimp only [St.put]
 refine K5 _ ?_
 refine yS fun _ K6 => ?_
 refine aq rfl (fun hc => ?_) (fun hc => ?_)
 ·replace hc := of_decide_eq_true hc
  obtain ⟨x, hx⟩ : ∃ x, xs[k]? = some x := da (by omega)
  refine ay ?_
  refine K6 _ ?_
  refine yS fun _ K7 => ?_
  refine bf ?_
  refine yS fun _ K8 => ?_
  refine yR ?_
  refine aa rfl (br rfl rfl rfl rfl (bq (by assumption)) (Enc.len _)) ?_
  refine yL rfl rfl rfl ?_
  refine yA rfl rfl ?_
  refine yN ?_
  dsimp only [St.put]
  refine K8 _ ?_
  refine yS fun _ K9 => ?_
  refine yR ?_
  refine yM rfl rfl ?_
  refine yM rfl rfl ?_
  refine aa rfl (fk rfl rfl rfl) ?_
  refine yN ?_
  dsimp only [St.put]
  refine K9 _ ?_
  refine aq rfl (fun hc => ?_) (fun hc => ?_)
  ·replace hc := jq hc
   refine yS fun _ K10 => ?_
   refine yR ?_
   refine yM rfl rfl ?_
   refine yA rfl rfl ?_
   refine yN ?_
   dsimp only [St.put]
   refine K10 _ ?_
   refine ax ?_
   refine bg rfl (by constructor) zN zS ?_
   exact vi (ujy hx hc hI.2).symm
  replace hc := ii hc
  refine ay ?_
  refine K7 _ ?_
  refine yR ?_
  refine aa rfl (bu rfl rfl rfl (by omega)) ?_
  refine yM rfl rfl ?_
  refine yN ?_
  dsimp only [St.put]
  exact ⟨k + 1, by omega, ⟨by omega, ukr hx hc hI.2⟩, ⟨⟨rfl, rfl⟩, zF, zB, zN, zX⟩⟩
 try replace hc := of_decide_eq_false hc
 refine cz ?_
 refine K3 _ ?_
 refine yS fun _ K11 => ?_
 refine yR ?_
 refine yM rfl rfl ?_
 refine yA rfl rfl ?_
 refine yN ?_
 dsimp only [St.put]
 refine K11 _ ?_
 refine ax ?_
 refine bg rfl (by constructor) zN zS ?_
 exact vi (by
  rw [uj0]
  have := hI.2
  rwa [gd (by omega)] at this)
theorem ujo (n lo hi : Int) : Pure Tryz.prog 96 [.v (.int .i64 n), .elem [.v (.int .i64 lo)], .elem [.v (.int .i64 hi)]] (.v (.bool (l5 n lo hi))) := by
 refine c4 Tryz.func96 rfl (fun m => .v) fun G nx => ?_
 simp only [Tryz.ntmps96, List.length_cons, List.length_nil, Nat.reduceAdd, Nat.reduceSub]
 refine bx fun hlt => ?_
 dsimp only at hlt
 refine yS fun _ K1 => ?_
 refine yR ?_
 refine yA rfl rfl ?_
 refine yN ?_
 dsimp only [St.put]
 refine K1 _ ?_
 refine yS fun _ K2 => ?_
 refine yR ?_
 refine yM rfl rfl ?_
 refine yL rfl rfl rfl ?_
 refine aa rfl (cn rfl rfl rfl) ?_
 refine eo (fun hs => ?_) (fun hs => ?_)
 ·try replace hs := of_decide_eq_true hs
  refine yM rfl rfl ?_
  refine yK rfl ?_
  refine yK rfl ?_
  refine yK rfl ?_
  refine aa rfl (cb rfl rfl (by constructor)) ?_
  refine yA rfl rfl ?_
  refine yN ?_
  dsimp only [St.put]
  refine K2 _ ?_
  refine ax ?_
  refine bg rfl (by constructor) zN zS ?_
  exact vb (by simp [l5, hs]; try omega)
 try replace hs := of_decide_eq_false hs
 refine yM rfl rfl ?_
 refine yM rfl rfl ?_
 refine yL rfl rfl rfl ?_
 refine aa rfl (gz rfl rfl rfl) ?_
 refine aa rfl (ct rfl rfl (by constructor)) ?_
 refine yA rfl rfl ?_
 refine yN ?_
 dsimp only [St.put]
 refine K2 _ ?_
 refine ax ?_
 refine bg rfl (by constructor) zN zS ?_
 exact vb (by simp [l5, hs]; try omega)
theorem mu (lo hi : Int) (xs : List Int) : Pure Tryz.prog 76 [.v (.int .i64 lo), .v (.int .i64 hi), lst xs] (.v (.bool (vr lo hi xs))) := by
 refine c4 Tryz.func76 rfl (fun m => .v) fun G nx => ?_
 simp only [Tryz.ntmps76, List.length_cons, List.length_nil, Nat.reduceAdd, Nat.reduceSub]
 refine bx fun hlt => ?_
 dsimp only at hlt
 refine yS fun _ K1 => ?_
 refine yR ?_
 try dsimp only [St.put]
 refine yB rfl rfl rfl ?_
 try dsimp only [St.put]
 refine yB rfl rfl rfl ?_
 refine yA rfl rfl ?_
 refine yN ?_
 dsimp only [St.put]
 refine K1 _ ?_
 refine yS fun _ K2 => ?_
 refine yR ?_
 refine yM rfl rfl ?_
 refine aa rfl (pp rfl rfl) ?_
 try dsimp only [St.put]
 refine af rfl (bd rfl rfl rfl (wr xs (fun n => l5 n lo hi) _ _ fun x _ => ujo x lo hi) ?_)
 refine aa rfl (dw rfl rfl) ?_
 refine yA rfl rfl ?_
 refine yN ?_
 dsimp only [St.put]
 refine K2 _ ?_
 refine ax ?_
 refine bg rfl (by constructor) zN zS ?_
 rfl
theorem xw (a b : PlaceD) : Pure Tryz.prog 84 [val a, val b] (.v (.int .i64 (lk a b))) := by
 refine c4 Tryz.func84 rfl (fun m => .v) fun G nx => ?_
 simp only [Tryz.ntmps84, List.length_cons, List.length_nil, Nat.reduceAdd, Nat.reduceSub]
 refine bx fun hlt => ?_
 dsimp only at hlt
 refine yS fun _ K1 => ?_
 refine yR ?_
 try dsimp only [St.put]
 refine yB rfl rfl rfl ?_
 try dsimp only [St.put]
 refine yB rfl rfl rfl ?_
 refine yA rfl rfl ?_
 refine yN ?_
 dsimp only [St.put]
 refine K1 _ ?_
 refine yS fun _ K2 => ?_
 refine fu [(0, none), (1, none), (2, none), (3, none), (5, none), (6, none), (7, none), (8, none), (10, none), (11, none), (12, none), (13, none), (4, none), (9, none), (14, none), (15, none), (16, none), (17, none)] (fun i => [14, 15, 16].contains i) (fun i => [4, 9, 14, 15, 16].contains i) (fun i => [0, 2, 5, 7, 10, 12, 17].contains i) [] (by kernel_rfl) (by kernel_rfl) ?_
 refine ae rfl rfl rfl rfl (cv rfl rfl rfl) ?_
 try dsimp only [St.put]
 refine bc rfl rfl rfl rfl (cg rfl rfl) ?_
 refine ae rfl rfl rfl rfl (cv rfl rfl rfl) ?_
 try dsimp only [St.put]
 refine bc rfl rfl rfl rfl (cg rfl rfl) ?_
 refine ae rfl rfl rfl rfl (cv rfl rfl rfl) ?_
 try dsimp only [St.put]
 refine bc rfl rfl rfl rfl (cg rfl rfl) ?_
 refine ae rfl rfl rfl rfl (cv rfl rfl rfl) ?_
 try dsimp only [St.put]
 refine bc rfl rfl rfl rfl (cg rfl rfl) ?_
 refine ae rfl rfl rfl rfl (cv rfl rfl rfl) ?_
 try dsimp only [St.put]
 refine bc rfl rfl rfl rfl (cg rfl rfl) ?_
 refine ae rfl rfl rfl rfl (cv rfl rfl rfl) ?_
 try dsimp only [St.put]
 refine bc rfl rfl rfl rfl (cg rfl rfl) ?_
 refine g7 ?_
 try dsimp only [St.put]
 refine i9 rfl rfl rfl (bd rfl rfl rfl (v8 _ _) ⟨zD, ?_⟩)
 try dsimp only [St.put]
 refine i9 rfl rfl rfl (bd rfl rfl rfl (v8 _ _) ⟨zD, ?_⟩)
 try dsimp only [St.put]
 refine g4 rfl rfl rfl rfl (bd rfl rfl rfl (v8 _ _) ?_)
 try dsimp only [St.put]
 refine g4 rfl rfl rfl rfl (ca rfl rfl rfl (by decide) (by decide) zR (by decide) ?_)
 try dsimp only [St.put]
 refine g4 rfl rfl rfl rfl (bd rfl rfl rfl (ubs [im a.ch b.ch, im a.ln b.ln, im a.wd b.wd]) ?_)
 refine dq rfl rfl rfl rfl (fa rfl (by constructor)) ?_
 refine gw ?_
 dsimp only [St.put]
 refine K2 _ ?_
 refine ax ?_
 refine bg rfl (by constructor) zN zS ?_
 exact vi (ujz a b)
theorem ujk (a b : List Int) (ha : a.length ≤ 1000) (hb : b.length ≤ 1000) : Pure Tryz.prog 57 [lst a, lst b] (.v (.int .i64 (xg a b))) := by
 refine c4 Tryz.func57 rfl (fun m => .v) fun G nx => ?_
 simp only [Tryz.ntmps57, List.length_cons, List.length_nil, Nat.reduceAdd, Nat.reduceSub]
 refine bx fun hlt => ?_
 dsimp only at hlt
 refine yS fun _ K1 => ?_
 refine yR ?_
 refine yA rfl rfl ?_
 refine yN ?_
 dsimp only [St.put]
 refine K1 _ ?_
 refine yS fun _ K2 => ?_
 refine yR ?_
 refine yM rfl rfl ?_
 refine aa rfl (bi rfl rfl (List.length_map _)) ?_
 refine yM rfl rfl ?_
 refine aa rfl (bi rfl rfl (List.length_map _)) ?_
 refine aa rfl (f4 rfl rfl rfl (by omega)) ?_
 refine yM rfl rfl ?_
 refine yM rfl rfl ?_
 try dsimp only [St.put]
 refine af rfl (bd rfl rfl rfl (umu a b ha hb) ?_)
 try dsimp only [St.put]
 refine af rfl (ca rfl rfl rfl (by decide) (by decide) zR (by decide) ?_)
 try dsimp only [St.put]
 refine af rfl (bd rfl rfl rfl (ubs [(a.length : Int) - (b.length : Int), fe a b]) ?_)
 refine yA rfl rfl ?_
 refine yN ?_
 dsimp only [St.put]
 refine K2 _ ?_
 refine ax ?_
 refine bg rfl (by constructor) zN zS ?_
 rfl
theorem ujj (t : ai) (q : PlaceD) (ht : dr t = true) : Pure Tryz.prog 83 [ig t, val q] (.v (.bool (fp t q))) := by
 refine c4 Tryz.func83 rfl (fun m => .v) fun G nx => ?_
 simp only [Tryz.ntmps83, List.length_cons, List.length_nil, Nat.reduceAdd, Nat.reduceSub]
 refine bx fun hlt => ?_
 dsimp only at hlt
 obtain ⟨hl1, hl2, hl3⟩ := ko ht
 refine yS fun _ K1 => ?_
 refine yR ?_
 try dsimp only [St.put]
 refine yB rfl rfl rfl ?_
 try dsimp only [St.put]
 refine yB rfl rfl rfl ?_
 refine yA rfl rfl ?_
 refine yN ?_
 dsimp only [St.put]
 refine K1 _ ?_
 refine yS fun _ K2 => ?_
 refine co 5 ?_
 refine zQ ?_
 refine j4 (X := Bool) (fun b => b = !(g5 t (q.ch, q.ln)).isSome) (fun b => [(29, .v (.bool b))]) (fun b G' => G') rfl ?_ (fun _ _ _ _ h => .inl h) ?_ ?_
 ·rintro b hI
  exact zL
 ·refine rb [(0, none), (1, none), (2, none), (3, none), (4, none), (5, none)] (fun _ => false) (fun i => [0, 2, 3, 4].contains i) 19 (rl [6, 19]) (by kernel_rfl) (by kernel_rfl) ?_
  refine ae rfl rfl rfl rfl (cv rfl rfl rfl) ?_
  try dsimp only [St.put]
  refine bc rfl rfl rfl rfl (cg rfl rfl) ?_
  refine ae rfl rfl rfl rfl (bi rfl rfl (List.length_map _)) ?_
  refine ae rfl rfl rfl rfl (f4 rfl rfl rfl (by omega)) ?_
  refine ae rfl rfl rfl rfl (cv rfl rfl rfl) ?_
  try dsimp only [St.put]
  refine bc rfl rfl rfl rfl (cg rfl rfl) ?_
  refine az ?_
  refine eb [6] (by kernel_rfl) (by simp) ?_
  refine d9 ?_ ?_
  ·try dsimp only [St.put]
   refine iz rfl rfl rfl (ca rfl rfl rfl (by decide) (by decide) zR (by decide) ?_)
   refine eb [7] (by kernel_rfl) (by simp) ?_
   refine d9 ?_ ?_
   ·try dsimp only [St.put]
    refine iz rfl rfl rfl (bd rfl rfl rfl (mu _ _ [_]) ?_)
    refine ep [(8, none), (9, none), (10, none), (11, none), (12, none), (13, none), (14, none), (15, none), (16, none), (17, none), (18, none), (19, none), (20, none)] (fun i => [8, 9, 10, 12, 14, 15, 17, 18, 19].contains i) 4 (rl [21, 4]) (by kernel_rfl) ?_
    refine ae rfl rfl rfl rfl (dw rfl rfl) ?_
    refine xM rfl rfl rfl rfl rfl ?_
    refine jf (fun hs => ?_) (fun hs => ?_)
    ·have h8 : inB q.ch 0 ((t.length : Int) - 1) = false := by rw [gj] at hs; simpa using hs
     refine aj rfl rfl rfl ?_
     refine aj rfl rfl rfl ?_
     refine aj rfl rfl rfl ?_
     refine aj rfl rfl rfl ?_
     refine aj rfl rfl rfl ?_
     refine aj rfl rfl rfl ?_
     refine aj rfl rfl rfl ?_
     refine aj rfl rfl rfl ?_
     refine aj rfl rfl rfl ?_
     refine aj rfl rfl rfl ?_
     refine aj rfl rfl rfl ?_
     refine az ?_
     refine eb [21] (by kernel_rfl) (by simp) ?_
     refine d9 ?_ ?_
     ·refine f9 rfl rfl rfl ?_
      refine eb [22] (by kernel_rfl) (by simp) ?_
      refine d9 ?_ ?_
      ·refine f9 rfl rfl rfl ?_
       refine ep [(23, none), (24, none)] (fun i => [23, 24].contains i) 0 (rl [25]) (by kernel_rfl) ?_
       refine aj rfl rfl rfl ?_
       refine ae rfl rfl rfl rfl (cb rfl rfl (by constructor)) ?_
       refine az ?_
       dsimp only [St.put]
       refine iw (by kernel_rfl) ?_
       refine ⟨_, ?_, ⟨⟨rfl, rfl⟩, zF, zB, zN, zX⟩⟩
       rw [ua]
       (simp [h8]; done)
      exact d8
     exact d8
    have h8 : inB q.ch 0 ((t.length : Int) - 1) = true := by rw [gj] at hs; simpa using hs
    have hn1' := h8
    simp only [inB_true] at hn1'
    obtain ⟨c, hcx⟩ : ∃ c, t[q.ch.toNat]? = some c := da (by omega)
    have hnl : ku t q.ch = c.lines.length := by simp [ku, hcx]
    have hll := (hl3 c (f5 hcx)).2.1
    have hch : q.ch = ((q.ch.toNat : Nat) : Int) := by omega
    refine ae rfl rfl rfl rfl (cv rfl rfl rfl) ?_
    try dsimp only [St.put]
    refine bc rfl rfl rfl rfl (cg rfl rfl) ?_
    refine ae rfl rfl rfl rfl (cv rfl rfl rfl) ?_
    try dsimp only [St.put]
    refine bc rfl rfl rfl rfl (cg rfl rfl) ?_
    try dsimp only [St.put]
    refine ae rfl rfl rfl rfl (br rfl rfl rfl (by omega) (bq (by assumption)) (Enc.len _)) ?_
    refine ae rfl rfl rfl rfl (cv rfl rfl rfl) ?_
    try dsimp only [St.put]
    refine bc rfl rfl rfl rfl (cg rfl rfl) ?_
    refine ae rfl rfl rfl rfl (bi rfl rfl (List.length_map _)) ?_
    refine ae rfl rfl rfl rfl (f4 rfl rfl rfl (by omega)) ?_
    refine ae rfl rfl rfl rfl (cv rfl rfl rfl) ?_
    try dsimp only [St.put]
    refine bc rfl rfl rfl rfl (cg rfl rfl) ?_
    refine az ?_
    refine eb [21] (by kernel_rfl) (by simp) ?_
    refine d9 ?_ ?_
    ·try dsimp only [St.put]
     refine iz rfl rfl rfl (ca rfl rfl rfl (by decide) (by decide) zR (by decide) ?_)
     refine eb [22] (by kernel_rfl) (by simp) ?_
     refine d9 ?_ ?_
     ·try dsimp only [St.put]
      refine iz rfl rfl rfl (bd rfl rfl rfl (mu _ _ [_]) ?_)
      refine ep [(23, none), (24, none)] (fun i => [23, 24].contains i) 0 (rl [25]) (by kernel_rfl) ?_
      refine ae rfl rfl rfl rfl (dw rfl rfl) ?_
      refine ae rfl rfl rfl rfl (ct rfl rfl (by constructor)) ?_
      refine az ?_
      dsimp only [St.put]
      refine iw (by kernel_rfl) ?_
      refine ⟨_, ?_, ⟨⟨rfl, rfl⟩, zF, zB, zN, zX⟩⟩
      rw [ua]
      (simp [h8, hnl, gj]; done)
     exact d8
    exact d8
   exact d8
  exact d8
 rintro b hst
 dsimp only at hst ⊢
 refine aq rfl (fun hc => ?_) (fun hc => ?_)
 ·have hw : g5 t (q.ch, q.ln) = none := by rw [hc] at hst; simpa using hst.symm
  refine yS fun _ K4 => ?_
  refine yR ?_
  refine yA rfl rfl ?_
  refine yN ?_
  dsimp only [St.put]
  refine K4 _ ?_
  refine ax ?_
  refine bg rfl (by constructor) zN zS ?_
  exact vb (by unfold fp; rw [hw])
 have hw0 : (g5 t (q.ch, q.ln)).isSome = true := by rw [hc] at hst; simpa using hst.symm
 obtain ⟨l, hw⟩ := Option.isSome_iff_exists.1 hw0
 obtain ⟨k, n, c, hkn, hk, hn⟩ := rm hw
 have hch : q.ch = ((k : Nat) : Int) := congrArg Prod.fst hkn
 have hln : q.ln = ((n : Nat) : Int) := congrArg Prod.snd hkn
 have hwl := t7 ht hw
 refine ay ?_
 refine K2 _ ?_
 refine yS fun _ K5 => ?_
 refine fu [(0, none), (1, none), (2, none), (3, none), (4, none), (5, none), (6, none), (7, none), (8, none), (9, none), (10, none), (11, none), (12, none), (13, none), (14, none), (15, none), (16, none), (17, none)] (fun i => [16].contains i) (fun i => [15, 16].contains i) (fun i => [0, 2, 4, 5, 7, 9, 11, 12, 13, 17].contains i) [] (by kernel_rfl) (by kernel_rfl) ?_
 refine ae rfl rfl rfl rfl (cv rfl rfl rfl) ?_
 try dsimp only [St.put]
 refine bc rfl rfl rfl rfl (cg rfl rfl) ?_
 refine ae rfl rfl rfl rfl (cv rfl rfl rfl) ?_
 try dsimp only [St.put]
 refine bc rfl rfl rfl rfl (cg rfl rfl) ?_
 try dsimp only [St.put]
 refine ae rfl rfl rfl rfl (br rfl rfl rfl (by omega) (bq (by assumption)) (Enc.len _)) ?_
 refine ae rfl rfl rfl rfl (cv rfl rfl rfl) ?_
 try dsimp only [St.put]
 refine bc rfl rfl rfl rfl (cg rfl rfl) ?_
 refine ae rfl rfl rfl rfl (cv rfl rfl rfl) ?_
 try dsimp only [St.put]
 refine bc rfl rfl rfl rfl (cg rfl rfl) ?_
 try dsimp only [St.put]
 refine ae rfl rfl rfl rfl (br rfl rfl rfl (by omega) (bq (by assumption)) (Enc.len _)) ?_
 try dsimp only [St.put]
 refine bc rfl rfl rfl rfl (cg rfl rfl) ?_
 refine ae rfl rfl rfl rfl (bi rfl rfl (List.length_map _)) ?_
 refine ae rfl rfl rfl rfl (f4 rfl rfl rfl (by omega)) ?_
 refine ae rfl rfl rfl rfl (cv rfl rfl rfl) ?_
 try dsimp only [St.put]
 refine bc rfl rfl rfl rfl (cg rfl rfl) ?_
 refine g7 ?_
 try dsimp only [St.put]
 refine i9 rfl rfl rfl (ca rfl rfl rfl (by decide) (by decide) zR (by decide) ⟨zD, ?_⟩)
 try dsimp only [St.put]
 refine g4 rfl rfl rfl rfl (bd rfl rfl rfl (mu _ _ [_]) ?_)
 refine dq rfl rfl rfl rfl (fa rfl (by constructor)) ?_
 refine gw ?_
 dsimp only [St.put]
 refine K5 _ ?_
 refine ax ?_
 refine bg rfl (by constructor) zN zS ?_
 exact vb (by unfold fp; rw [hw, gj])
theorem ujn (t : ai) (ht : dr t = true) : Pure Tryz.prog 82 [ig t] (.tup [lst (lz t t.length), .v (.int .i64 (l6 t : Int))]) := by
 refine c4 Tryz.func82 rfl (fun m => .tup (cm (b9 _ _) (cm .v di))) fun G nx => ?_
 simp only [Tryz.ntmps82, List.length_cons, List.length_nil, Nat.reduceAdd, Nat.reduceSub]
 refine bx fun hlt => ?_
 dsimp only at hlt
 obtain ⟨hl1, hl2, hl3⟩ := ko ht
 refine yS fun _ K1 => ?_
 refine yR ?_
 try dsimp only [St.put]
 refine yB rfl rfl rfl ?_
 refine yA rfl rfl ?_
 refine yA rfl rfl ?_
 refine yN ?_
 dsimp only [St.put]
 refine K1 _ ?_
 refine yS fun _ K2 => ?_
 refine yR ?_
 refine yA rfl rfl ?_
 refine yN ?_
 dsimp only [St.put]
 refine K2 _ ?_
 refine na 4 3 1 rfl (by decide) ?_
 dsimp only [List.set_cons_zero, List.set_cons_succ]
 refine yS fun _ K3 => ?_
 refine yR ?_
 refine yA rfl rfl ?_
 refine yN ?_
 dsimp only [St.put]
 refine K3 _ ?_
 refine yS fun _ K4 => ?_
 refine yS fun _ K5 => ?_
 refine yR ?_
 refine yF rfl rfl rfl rfl ?_
 refine yL rfl rfl rfl ?_
 refine aa rfl (bi rfl rfl (List.length_map _)) ?_
 refine yM rfl rfl ?_
 refine yN ?_
 dsimp only [St.put]
 refine K5 _ ?_
 refine bf ?_
 refine co 12 ?_
 refine zQ ?_
 refine c7 (am G nx (.tip 0 3 1)) zX ?_
 dsimp only
 refine c6 (X := Nat) (fun k => k ≤ t.length) (fun k => t.length - k) (fun k => [(4, .list ((lz t k).map cells) (.tip nx)), (5, .v (.int .i64 (fy t k : Int))), (7, .any), (11, .v (.int .i64 (k : Int)))]) (fun k G' => am G nx (.tip (lz t k).length 3 1)) 0 rfl ?_ ?_ ?_ ?_ ?_ ?_
 ·exact Nat.zero_le _
 ·exact zF
 ·exact zX
 ·rintro k hI
  exact zL
 ·rintro k hI
  exact zH
 rintro k hI
 dsimp only at hI ⊢
 refine yS fun _ K6 => ?_
 refine yR ?_
 refine aa rfl (cn rfl rfl rfl) ?_
 refine yN ?_
 dsimp only [St.put]
 refine K6 _ ?_
 refine yS fun _ K7 => ?_
 refine aq rfl (fun hc => ?_) (fun hc => ?_)
 ·replace hc := of_decide_eq_true hc
  obtain ⟨c, hcx⟩ : ∃ c, t[k]? = some c := da (by omega)
  have hll := (hl3 c (f5 hcx)).2.1
  have hsl := ug ht k (by omega)
  have hst : ((fy t (k + 1) : Nat) : Int) = (fy t k : Int) + (c.lines.length : Int) := by rw [rq hcx]; omega
  have hln := uak t k
  refine ay ?_
  refine K7 _ ?_
  refine yS fun _ K8 => ?_
  refine bf ?_
  refine yS fun _ K9 => ?_
  refine yR ?_
  refine aa rfl (br rfl rfl rfl rfl (bq (by assumption)) (Enc.len _)) ?_
  refine yE rfl rfl rfl ?_
  try dsimp only [St.put]
  refine af rfl (ed rfl ?_)
  try dsimp only [St.put]
  refine af rfl (dj rfl rfl rfl zG rfl rfl (by rfl) ?_)
  refine yN ?_
  dsimp only [St.put]
  refine K9 _ ?_
  refine gp (i := 7) rfl zG zC ?_
  dsimp only
  refine yS fun _ K10 => ?_
  refine yR ?_
  refine yM rfl rfl ?_
  refine yM rfl rfl ?_
  try dsimp only [St.put]
  refine af rfl (ca rfl rfl rfl (by decide) (by decide) zR (by decide) ?_)
  try dsimp only [St.put]
  refine af rfl (ce ([(fy t k : Int)]) rfl rfl zG zE rfl rfl zA ?_ zA)
  refine yA rfl rfl ?_
  refine yN ?_
  dsimp only [St.put]
  refine K10 _ ?_
  refine yR ?_
  refine yM rfl rfl ?_
  refine yF rfl rfl rfl rfl ?_
  refine yL rfl rfl rfl ?_
  refine aa rfl (bi rfl rfl (List.length_map _)) ?_
  refine aa rfl (bu rfl rfl rfl (by omega)) ?_
  refine yA rfl rfl ?_
  refine yN ?_
  dsimp only [St.put]
  refine K8 _ ?_
  refine yR ?_
  refine aa rfl (bu rfl rfl rfl (by omega)) ?_
  refine yM rfl rfl ?_
  refine yN ?_
  dsimp only [St.put]
  rw [← hst]
  simp only [← uhj]
  exact ⟨k + 1, by omega, by omega, ⟨⟨rfl, rfl⟩, zF, zB, zN, zX⟩⟩
 replace hc := of_decide_eq_false hc
 obtain rfl : k = t.length := by omega
 refine cz ?_
 refine K4 _ ?_
 refine yS fun _ K11 => ?_
 refine yR ?_
 refine yM rfl rfl ?_
 refine yM rfl rfl ?_
 refine yA rfl rfl ?_
 refine yA rfl rfl ?_
 refine yN ?_
 dsimp only [St.put]
 refine K11 _ ?_
 refine ax ?_
 refine ia rfl (eg (by constructor)) (eg (by constructor)) zN zS ?_ ?_
 ·exact zW
 exact Wk.of_eq (vi rfl)
end Go.Proofs.YtbbdginipiljdaaGreatDoor
namespace Go.AB
open Go Go.RowKit Go.ChangeShapes Go.WideShapes
open Go.AB.Enc (cells)
open Go.PB (ba ai PlaceD bh bk bj)
/-- What is read along a type is a datum. -/
class OpensE (P : Program) (t : TypeId) (α : Type) [Enc α] : Prop where
 n : P.cellsOf t = Enc.n α
 op : ∀ {H : Type} {enc : TypeId × Value → H} {w : World} {base : Nat} {spare : Nat → Bool} {held : Bool} {fuel : Nat} {cs : List Value} {x : DataW H × List MemPlace}, DataW.trod enc P w base spare held fuel t cs = some x → ∃ a : α, Rs (iv w) w (cells a) cs
def vq (P : Program) (t : TypeId) (k : IntKind) : Bool := match P.underlying t with | some (.int k') => k' == k && P.cellsOf t == 1 | _ => false
def xb (P : Program) (t : TypeId) : Bool := match P.underlying t with | some .string => P.cellsOf t == 1 | _ => false
def rr (P : Program) (t e : TypeId) : Bool := match P.underlying t with | some (.slice e') => e' == e && P.cellsOf t == 1 | _ => false
def jn (P : Program) (t : TypeId) (l : List (Nat × TypeId × Nat)) (n : Nat) : Bool := match P.underlying t with
 | some (.struct fs) => (fs.toList.map fun f => (f.offset, f.type, P.cellsOf f.type)) == l && P.cellsOf t == n
 | _ => false
theorem wfI64 {n : Int} (h : (Lit.int .i64 n).wf = true) : okV (.int .i64 n) = true := by
 simp [Lit.wf, IntKind.min, IntKind.max, IntKind.signed, IntKind.bits] at h
 exact jv ⟨by omega, by omega⟩
section
variable {P : Program} {t e : TypeId}
theorem vp {k : IntKind} (h : vq P t k = true) : P.underlying t = some (.int k) ∧ P.cellsOf t = 1 := by
 unfold vq at h
 split at h
 ·rename_i k' he
  simp only [Bool.and_eq_true, beq_iff_eq] at h
  rw [he, h.1]; exact ⟨rfl, h.2⟩
 ·cases h
theorem uai (h : xb P t = true) : P.underlying t = some .string ∧ P.cellsOf t = 1 := by
 unfold xb at h
 split at h
 ·rename_i he; exact ⟨he, by simpa using h⟩
 ·cases h
theorem xf (h : rr P t e = true) : P.underlying t = some (.slice e) ∧ P.cellsOf t = 1 := by
 unfold rr at h
 split at h
 ·rename_i k' he
  simp only [Bool.and_eq_true, beq_iff_eq] at h
  rw [he, h.1]; exact ⟨rfl, h.2⟩
 ·cases h
theorem Rs.single {E : Env} {w : World} {c : C} {v : Value} (h : R E w c v) : Rs E w [c] [v] := Rs.cons h Rs.nil
theorem Rs.single_inv {E : Env} {w : World} {c : C} {v : Value} (h : Rs E w [c] [v]) : R E w c v := h.2 0 c v rfl rfl
theorem OpensE.int (h : vq P t .i64 = true) : OpensE P t Int where
 n := (vp h).2
 op hx := by
  obtain ⟨n, rfl, _, h2⟩ := DataW.trod_int (vp h).1 hx
  exact ⟨n, Rs.single (.v (wfI64 h2))⟩
theorem OpensE.str (h : xb P t = true) : OpensE P t ByteArray where
 n := (uai h).2
 op hx := by
  obtain ⟨s, rfl, _, h2⟩ := DataW.trod_string (uai h).1 hx
  exact ⟨s, Rs.single (.v (okV_str.2 (by simpa [maxLen] using h2)))⟩
theorem uhk {w : World} {a : Addr} {v : Value} (h : w.cell? a = some v) : a.spot = none := by
 unfold World.cell? at h
 split at h
 ·split at h
  ·cases h
  ·rename_i hs
   cases hsp : a.spot with
   | none => rfl
   | some s => simp [hsp] at hs
 ·cases h
theorem ucv {α : Type} {p : Nat → α → Prop} : ∀ (n : Nat), (∀ i, i < n → ∃ x, p i x) → ∃ xs : List α, xs.length = n ∧ ∀ i x, xs[i]? = some x → p i x
 | 0, _ => ⟨[], rfl, fun i x h => by simp at h⟩
 | n + 1, h => by
  obtain ⟨xs, h1, h2⟩ := ucv n fun i hi => h i (by omega)
  obtain ⟨y, hy⟩ := h n (by omega)
  refine ⟨xs ++ [y], by simp [h1], fun i x hx => ?_⟩
  by_cases hi : i < xs.length
  ·rw [List.getElem?_append_left hi] at hx; exact h2 i x hx
  ·rw [List.getElem?_append_right (by omega)] at hx
   have hz : i - xs.length = 0 := by
    have := (List.getElem?_eq_some_iff.1 hx).1
    simp at this; omega
   rw [hz] at hx
   simp at hx
   subst hx
   rw [show i = n by omega]; exact hy
theorem ua3 {α : Type} [Enc α] {E : Env} {w : World} {b : Nat} : ∀ (xs : List α) (off : Nat), (∀ i x, xs[i]? = some x → ∃ es, Rs E w (cells x) es ∧ ∀ j e, es[j]? = some e → w.cell? ⟨b, off + i * Enc.n α + j, none⟩ = some e) →
  ∃ us, Rs E w (xs.map cells).flatten us ∧ ∀ j u, us[j]? = some u → w.cell? ⟨b, off + j, none⟩ = some u
 | [], off, _ => ⟨[], Rs.nil, by simp⟩
 | x :: xs, off, h => by
  obtain ⟨es, h1, h2⟩ := h 0 x rfl
  obtain ⟨us, h3, h4⟩ := ua3 xs (off + Enc.n α) fun i y hy => by
   obtain ⟨fs, k1, k2⟩ := h (i + 1) y (by simpa using hy)
   exact ⟨fs, k1, fun j e he => by rw [← k2 j e he]; congr 2; rw [Nat.add_mul]; omega⟩
  have hl : es.length = Enc.n α := by rw [h1.1]; exact Enc.len x
  refine ⟨es ++ us, by rw [List.map_cons, List.flatten_cons]; exact h1.append h3, fun j u hu => ?_⟩
  by_cases hj : j < es.length
  ·rw [List.getElem?_append_left hj] at hu
   rw [← h2 j u hu]; congr 2; omega
  ·rw [List.getElem?_append_right (by omega)] at hu
   rw [← h4 _ u hu]; congr 2; omega
theorem OpensE.slice {α : Type} [Enc α] [o : OpensE P e α] (h : rr P t e = true) (hpos : 1 ≤ Enc.n α) : OpensE P t (List α) where
 n := (xf h).2
 op {H enc w base spare held fuel cs x} hx := by
  rcases Deep.open_slice (xf h).1 hx with ⟨rfl, _⟩ | ⟨a, len, cap, m, n, D, Pl, rfl, hb, hl, hm, hmm, _, hel⟩
  ·refine ⟨[], Rs.single ?_⟩
   exact R.mk_list (rows := []) (sz := 1) (us := []) (Nat.le_refl _) (Nat.zero_le _) (Nat.le_refl _) (by simp) (by simp) Rs.nil (.inl rfl) (by simp) (by simp) (by simp)
  ·have hlm : len ≤ m := by rw [hmm]; split <;> omega
   have hs : 0 < len → a.spot = none := fun h0 => by
    obtain ⟨cs', hc, ht⟩ := hel 0 (by omega)
    obtain ⟨_, hlen, hcell⟩ := World.cells?_some hc
    rw [o.n] at hlen hcell
    have := hcell 0 (by omega)
    rw [List.getElem?_eq_getElem (by omega)] at this
    have := uhk this
    simpa [Addr.add] using this
   obtain ⟨xs, h1, h2⟩ := ucv (p := fun i (y : α) => ∃ es, Rs (iv w) w (cells y) es ∧ ∀ j e, es[j]? = some e → w.cell? ⟨a.block, a.off + i * Enc.n α + j, none⟩ = some e) len fun i hi => by
    obtain ⟨cs', hc, ht⟩ := hel i (by omega)
    obtain ⟨y, hy⟩ := o.op ht
    obtain ⟨_, hlen, hcell⟩ := World.cells?_some hc
    rw [o.n] at hlen hcell hc
    have hs' := hs (by omega)
    refine ⟨y, cs', hy, fun j u hj => ?_⟩
    have hj' : j < Enc.n α := by rw [← hlen]; exact (List.getElem?_eq_some_iff.1 hj).1
    have := hcell j hj'
    rw [hj] at this
    rw [← this]
    obtain ⟨ab, ao, asp⟩ := a
    dsimp only at hs'
    subst hs'
    rw [p8, p8]
   subst h1
   refine ⟨xs, Rs.single ?_⟩
   obtain ⟨us, k1, k2⟩ := ua3 (E := iv w) (w := w) (b := a.block) xs a.off h2
   have := R.mk_list (E := iv w) (w := w) (rows := xs.map cells) (a := some a) (cap := cap) (sz := Enc.n α) (us := us) (tok := .none) (by simpa using hl) hm hpos (lm xs) (fun r hr c hc => by
    obtain ⟨x, _, rfl⟩ := List.mem_map.1 hr
    exact Enc.one x c hc) k1 (by
    by_cases hxs : xs = []
    ·subst hxs; exact .inl rfl
    ·right
     have hs' := hs (List.length_pos_iff.2 hxs)
     obtain ⟨ab, ao, asp⟩ := a
     dsimp only at hs'
     subst hs'
     refine ⟨ab, ao, rfl, ?_, k2⟩
     have h0 : 0 < us.length := by
      rw [k1.1, m7 (lm xs), List.length_map]
      exact Nat.mul_pos (List.length_pos_iff.2 hxs) hpos
     have := zg (k2 (us.length - 1) _ (List.getElem?_eq_getElem (by omega)))
     dsimp only at this
     show ao + us.length ≤ n7 w ab
     omega) (by simp) (by simp) (by simp)
   rw [List.length_map] at this
   exact this
theorem uaj {l : List (Nat × TypeId × Nat)} {n : Nat} (h : jn P t l n = true) {H : Type} {enc : TypeId × Value → H} {w : World} {base : Nat} {spare : Nat → Bool} {held : Bool} {fuel : Nat} {cs : List Value} {x : DataW H × List MemPlace}
  (hx : DataW.trod enc P w base spare held fuel t cs = some x) : cs.length = n ∧ ∀ p ∈ l, ∃ m y, DataW.trod enc P w base spare held m p.2.1 ((cs.drop p.1).take p.2.2) = some y := by
 unfold jn at h
 split at h
 ·rename_i fs he
  simp only [Bool.and_eq_true, beq_iff_eq] at h
  obtain ⟨xs, m, _, _, hl, hlen, hf⟩ := DataW.trod_struct he hx
  refine ⟨by rw [hl, h.2], fun p hp => ?_⟩
  rw [← h.1] at hp
  obtain ⟨f, hfm, rfl⟩ := List.mem_map.1 hp
  obtain ⟨i, hi⟩ := List.getElem?_of_mem hfm
  have hi' : fs[i]? = some f := by simpa using hi
  have hlt : i < xs.length := by rw [hlen]; exact (Array.getElem?_eq_some_iff.1 hi').1
  exact ⟨m, xs[i], by rw [← List.getElem?_eq_getElem hlt]; exact hf i f hi'⟩
 ·cases h
theorem uf {l : List (Nat × TypeId × Nat)} {n : Nat} (h : jn P t l n = true) : P.cellsOf t = n ∧ ∃ fs, P.underlying t = some (.struct fs) := by
 unfold jn at h
 split at h
 ·rename_i fs he
  simp only [Bool.and_eq_true, beq_iff_eq] at h
  exact ⟨h.2, fs, he⟩
 ·cases h
/-- A struct of one field. -/
theorem OpensE.one {α : Type} [Enc α] [o : OpensE P e α] (h : jn P t [(0, e, Enc.n α)] (Enc.n α) = true) : OpensE P t α where
 n := (uf h).1
 op {H enc w base spare held fuel cs x} hx := by
  obtain ⟨hl, hp⟩ := uaj h hx
  obtain ⟨m, y, hy⟩ := hp _ (List.mem_cons_self ..)
  obtain ⟨a, ha⟩ := o.op hy
  dsimp only at ha
  rw [List.drop_zero, List.take_of_length_le (by omega)] at ha
  exact ⟨a, ha⟩
/-- A struct, field by field. -/
theorem OpensE.struct {α : Type} [Enc α] {l : List (Nat × TypeId × Nat)} (h : jn P t l (Enc.n α) = true)
  (b : ∀ (w : World) (cs : List Value), cs.length = Enc.n α → (∀ p ∈ l, ∀ (β : Type) (_ : Enc β), OpensE P p.2.1 β → ∃ a : β, Rs (iv w) w (cells a) ((cs.drop p.1).take p.2.2)) → ∃ a : α, Rs (iv w) w (cells a) cs) : OpensE P t α where
 n := (uf h).1
 op {H enc w base spare held fuel cs x} hx := by
  obtain ⟨hl, hp⟩ := uaj h hx
  exact b w cs hl fun p hpl β _ o => let ⟨_, _, hy⟩ := hp p hpl; o.op hy
theorem OpensE.chap {tI tL : TypeId} [oI : OpensE P tI Int] [oL : OpensE P tL (List (List ByteArray))] (h : jn P t [(0, tI, 1), (1, tL, 1)] 2 = true) : OpensE P t ba :=
 .struct (α := ba) h fun w cs hl hp => by
  obtain ⟨a, ha⟩ := hp (0, tI, 1) (by simp) Int inferInstance oI
  obtain ⟨b, hb⟩ := hp (1, tL, 1) (by simp) (List (List ByteArray)) inferInstance oL
  match cs, hl with
  | [u, v], _ => exact ⟨⟨a, b⟩, Rs.cons (Rs.single_inv ha) hb⟩
theorem OpensE.place {tI : TypeId} [oI : OpensE P tI Int] (h : jn P t [(0, tI, 1), (1, tI, 1), (2, tI, 1)] 3 = true) : OpensE P t PlaceD :=
 .struct (α := PlaceD) h fun w cs hl hp => by
  obtain ⟨a, ha⟩ := hp (0, tI, 1) (by simp) Int inferInstance oI
  obtain ⟨b, hb⟩ := hp (1, tI, 1) (by simp) Int inferInstance oI
  obtain ⟨c, hc⟩ := hp (2, tI, 1) (by simp) Int inferInstance oI
  match cs, hl with
  | [u, v, x], _ => exact ⟨⟨a, b, c⟩, Rs.cons (Rs.single_inv ha) (Rs.cons (Rs.single_inv hb) hc)⟩
/-- An argument that is a struct; a number. -/
theorem OpensE.arg {α : Type} [Enc α] [o : OpensE P t α] {l : List (Nat × TypeId × Nat)} {n : Nat} (h : jn P t l n = true) {H : Type} {enc : TypeId × Value → H} {w : World} {base : Nat} {spare : Nat → Bool} {held : Bool} {r : Reach} {b0 : Nat} {v : Value} {d : DataW H} {ps : List MemPlace}
  (hv : Value.okWide P w r b0 t v) (hd : DataW.Trod enc P w base spare held t v d ps) : ∃ a : α, R (iv w) w (.agg (cells a)) v := by
 obtain ⟨fs, hs⟩ := (uf h).2
 obtain ⟨cs, rfl, _⟩ := okWide_struct hs hv
 obtain ⟨fuel, hf⟩ := hd
 obtain ⟨a, ha⟩ := o.op hf
 exact ⟨a, by simpa [Value.cells] using Rs.agg ha (Enc.one a)⟩
end
theorem ulg {P : Program} {f : FuncId} {cs : List C} {v fv : Value} {fc : C} (hp : PureF (.fact fv fc) P f cs (.v v)) {w : World} {args : List Value} (hF : R (iv w) w fc fv) (hr : Rs (iv w) w cs args) :
  Calls P f args.toArray w fun e w' => e = .returned v ∧ Below w.heap.size w w' := by
 obtain ⟨E1, v1, g1⟩ := udt (uff w) hF
 refine (hp _ _ (nj _ _ _) E1 w args (hr.ev v1) g1).mono ?_
 rintro e w' ⟨r, x, E', G', nx', rfl, hev, hx, _, rfl, _⟩
 exact ⟨by rw [hx.v_inv], by have := hev.below; rw [v1.B] at this; exact this⟩
end Go.AB
namespace Go.AB
open Go Go.RowKit Go.ChangeShapes Go.WideShapes
open Go.AB.Enc (cells)
variable {P : Program} {o : Oper} {st : St}
theorem n_rem {xt yt : TypeId} {x y : Operand} {m n : Int} (ho : o.op = .binOp .rem xt x y yt) (hx : evC st x = .v (.int .i64 m)) (hy : evC st y = .v (.int .i64 n)) (hm : 0 ≤ m ∧ m ≤ 9223372036854775807) (hn : 0 < n) : NStep P o st (.v (.int .i64 (m % n))) :=
 ka ho hx hy (jv (by have h1 := Int.emod_nonneg m (b := n) (by omega); have h2 := Int.mul_ediv_add_emod m n; have h3 := Int.mul_nonneg (Int.le_of_lt hn) (Int.ediv_nonneg hm.1 (Int.le_of_lt hn)); omega)) fun w => by
  have h1 : ¬ n = 0 := by omega
  have h2 : m.tmod n = m % n := Int.tmod_eq_emod_of_nonneg hm.1
  simp [eqGuard, binOp, Op.intDiv, h1, h2]
theorem ukl {s d : TypeId} {x : Operand} {k : IntKind} {n : Int} (ho : o.op = .convert s d x) (hx : evC st x = .v (.int k n)) (hs : (P.underlying s).isSome = true) (hd : P.underlying d = some (.int .i64)) (hn : -9223372036854775808 ≤ n ∧ n ≤ 9223372036854775807) : NStep P o st (.v (.int .i64 n)) := fun E w a h => by
 have e1 := (hx ▸ h.ev x).v_inv
 refine ⟨_, .v (jv hn), fun w' => ?_⟩
 have hk : P.intKind d = .i64 := by simp [Program.intKind, hd]
 have hw : IntKind.i64.wrap n = n := by rw [IntKind.wrap_i64]; omega
 have := run_convert_int (P := P) w' s d k n hs (by rw [hk]; exact hd)
 rw [hk, hw] at this
 simp [execOp, ho, e1, this]
end Go.AB
namespace Go.AB
open Go Go.RowKit
open Go.AB.Enc (cells)
variable {P : Program} {o : Oper} {st : St}
theorem si {xt yt : TypeId} {x y : Operand} {m n : Int} (ho : o.op = .binOp .mul xt x y yt) (hx : evC st x = .v (.int .i64 m)) (hy : evC st y = .v (.int .i64 n)) (hb : -9223372036854775808 ≤ m * n ∧ m * n ≤ 9223372036854775807) : NStep P o st (.v (.int .i64 (m * n))) :=
 ka ho hx hy (jv hb) fun w => by
  have : IntKind.i64.wrap (m * n) = m * n := by rw [IntKind.wrap_i64]; omega
  simp [eqGuard, binOp, Op.intArith, this]
theorem sg {xt yt : TypeId} {x y : Operand} {m n : Int} (ho : o.op = .binOp .quo xt x y yt) (hx : evC st x = .v (.int .i64 m)) (hy : evC st y = .v (.int .i64 n)) (hm : 0 ≤ m ∧ m ≤ 9223372036854775807) (hn : 0 < n) : NStep P o st (.v (.int .i64 (m / n))) := by
 have h3 : 0 ≤ m / n := Int.ediv_nonneg hm.1 (by omega)
 have h4 : m / n ≤ m := Int.ediv_le_self _ hm.1
 exact ka ho hx hy (jv (by omega)) fun w => by
  have h1 : ¬ n = 0 := by omega
  have h2 : m.tdiv n = m / n := Int.tdiv_eq_ediv_of_nonneg hm.1
  have h5 : IntKind.i64.wrap (m / n) = m / n := by rw [IntKind.wrap_i64]; omega
  simp [eqGuard, binOp, Op.intDiv, h1, h2, h5]
theorem ugo {n : Nat} (h : n ≤ 62) : (2 : Int) ^ n ≤ 4611686018427387904 := by
 have : 2 ^ n ≤ 2 ^ 62 := Nat.pow_le_pow_right (by omega) h
 have h2 : ((2 ^ n : Nat) : Int) = (2 : Int) ^ n := by norm_cast
 rw [← h2]
 have h3 : (2 : Nat) ^ 62 = 4611686018427387904 := by decide
 omega
/-- one, shifted -/
theorem uca {xt yt : TypeId} {x y : Operand} {n : Nat} (ho : o.op = .binOp .shl xt x y yt) (hx : evC st x = .v (.int .i64 1)) (hy : evC st y = .v (.int .i64 (n : Int))) (hn : n ≤ 62) : NStep P o st (.v (.int .i64 ((2 ^ n : Nat) : Int))) := by
 have h0 := ugo hn
 have h2 : ((2 ^ n : Nat) : Int) = (2 : Int) ^ n := by norm_cast
 have h1 : 0 ≤ ((2 ^ n : Nat) : Int) := Int.natCast_nonneg _
 exact ka ho hx hy (jv (by omega)) fun w => by
  have e1 : ¬ ((n : Int) < 0) := by omega
  have e2 : min (n : Int).toNat IntKind.i64.bits = n := by rw [Int.toNat_natCast]; show min n 64 = n; omega
  have e3 : IntKind.i64.wrap (1 * 2 ^ n) = ((2 ^ n : Nat) : Int) := by rw [Int.one_mul, ← h2, IntKind.wrap_i64]; omega
  simp only [eqGuard, binOp, Op.shift, e1, if_false, e2, e3]
  rfl
/-- a number that is not below 0, shifted back -/
theorem x9 {xt yt : TypeId} {x y : Operand} {k : IntKind} {m n : Nat} (ho : o.op = .binOp .shr xt x y yt) (hx : evC st x = .v (.int k (m : Int))) (hy : evC st y = .v (.int .i64 (n : Int))) (hn : n ≤ k.bits) (hm : (m : Int) ≤ hiK k) (hk : loK k ≤ 0) : NStep P o st (.v (.int k ((m / 2 ^ n : Nat) : Int))) := by
 have h4 : m / 2 ^ n ≤ m := Nat.div_le_self _ _
 exact n_int' ho hx hy (okV_int.2 (by obtain ⟨q, hq⟩ : ∃ q, m / 2 ^ n = q := ⟨_, rfl⟩; rw [hq] at h4 ⊢; omega)) fun w => by
  have e1 : ¬ ((n : Int) < 0) := by omega
  have e2 : min (n : Int).toNat k.bits = n := by rw [Int.toNat_natCast]; omega
  have e3 : (m : Int).fdiv (2 ^ n) = ((m / 2 ^ n : Nat) : Int) := by
   have h2 : ((2 ^ n : Nat) : Int) = (2 : Int) ^ n := by norm_cast
   rw [← h2, Int.fdiv_eq_ediv_of_nonneg _ (Int.natCast_nonneg _)]
   norm_cast
  simp only [eqGuard, binOp, Op.shift, e1, if_false, e2, e3]
  rfl
where
 n_int' {op : BinOp} {xt yt : TypeId} {x y : Operand} {k k' : IntKind} {m n : Int} {r : Value} (ho : o.op = .binOp op xt x y yt) (hx : evC st x = .v (.int k m)) (hy : evC st y = .v (.int k' n))
  (h1 : okV r = true) (h : ∀ w, (do eqGuard op xt x y (.int k m) (.int k' n); binOp op xt (.int k m) (.int k' n)).run P w = .ok r w) : NStep P o st (.v r) := fun E w a hs => by
  have e1 := (hx ▸ hs.ev x).v_inv
  have e2 := (hy ▸ hs.ev y).v_inv
  refine ⟨r, .v h1, fun w' => ?_⟩
  have := h w'
  simp only [execOp, ho, e1, e2, Sem.run_bind] at this ⊢
  rw [this]
  rfl
/-- the last bit -/
theorem yb {xt yt : TypeId} {x y : Operand} {k : IntKind} {m : Nat} (ho : o.op = .binOp .and xt x y yt) (hx : evC st x = .v (.int k (m : Int))) (hy : evC st y = .v (.int k 1)) (hm : m < 2 ^ k.bits) (hb : 2 ≤ k.bits) : NStep P o st (.v (.int k ((m % 2 : Nat) : Int))) := by
 have h2 : m % 2 < 2 := Nat.mod_lt _ (by omega)
 exact ka ho hx hy (okV_int.2 (by cases k <;> simp only [loK, hiK] <;> omega)) fun w => by
  have e1 : (BitVec.ofInt k.bits (m : Int) &&& BitVec.ofInt k.bits 1).toNat = m % 2 := by
   have q1 : (BitVec.ofInt k.bits (m : Int)).toNat = m := by
    rw [show BitVec.ofInt k.bits (m : Int) = BitVec.ofNat k.bits m from BitVec.ofInt_natCast .., BitVec.toNat_ofNat, Nat.mod_eq_of_lt hm]
   have q2 : (BitVec.ofInt k.bits 1).toNat = 1 := by
    rw [show BitVec.ofInt k.bits 1 = BitVec.ofNat k.bits 1 from BitVec.ofInt_natCast k.bits 1, BitVec.toNat_ofNat, Nat.mod_eq_of_lt]
    exact Nat.one_lt_two_pow (by omega)
   rw [BitVec.toNat_and, q1, q2, Nat.and_one_is_mod]
  have e2 : k.wrap ((m % 2 : Nat) : Int) = ((m % 2 : Nat) : Int) := by
   have : m % 2 = 0 ∨ m % 2 = 1 := by omega
   rcases this with h | h <;> rw [h] <;> cases k <;> decide
  simp only [eqGuard, binOp, Op.intBits, e1, e2]
  simp
end Go.AB
namespace Go.AB
open Go Go.RowKit
open Go.AB.Enc (cells)
open Go.PB (ba ai PlaceD bh bk bj bw ar ah cw bv dc dg)
theorem uan {t : ai} (ht : dr t = true) (k : Nat) : fy t k ≤ 60 := by
 obtain ⟨_, h2, h3⟩ := ko ht
 have key : ∀ j, j ≤ t.length → fy t j ≤ j * 10 := by
  intro j
  induction j with
  | zero => intro _; rw [uam]; exact Nat.zero_le _
  | succ j ih =>
   intro hj
   have hc : t[j]? = some t[j] := List.getElem?_eq_getElem (by omega)
   rw [rq hc]
   have := (h3 _ (List.mem_of_getElem? hc)).2.1
   have := ih (by omega)
   omega
 by_cases q : k ≤ t.length
 ·have := key k q; omega
 have h1 := key t.length (Nat.le_refl _)
 have e : fy t k = fy t t.length := by
  unfold fy
  rw [List.take_of_length_le (show t.length ≤ k by omega), List.take_of_length_le (Nat.le_refl _)]
 omega
instance decLtW : ∀ a b : List Int, Decidable (ltW a b)
 | [], _ => isFalse (by simp [ltW])
 | _ :: _, [] => isFalse (by simp [ltW])
 | x :: a, y :: b => by
  have := decLtW a b
  unfold ltW
  exact inferInstance
end Go.AB
namespace Go.Proofs.YtbbdginipiljdaaGreatDoor
set_option maxRecDepth 10000
open Go.RowKit Go.AB
open Go.AB.Enc (cells)
open Go.PB (ba ai PlaceD bh bk bj bw ar ah cw bv dc dg)
theorem ox (n lo hi : Int) : Pure Tryz.prog 71 [.v (.int .i64 n), .v (.int .i64 lo), .v (.int .i64 hi)] (.v (.bool (inB n lo hi))) := by
 refine c4 Tryz.func71 rfl (fun m => .v) fun G nx => ?_
 simp only [Tryz.ntmps71, List.length_cons, List.length_nil, Nat.reduceAdd, Nat.reduceSub]
 refine bx fun hlt => ?_
 dsimp only at hlt
 refine yS fun _ K1 => ?_
 refine yR ?_
 refine yA rfl rfl ?_
 refine yN ?_
 dsimp only [St.put]
 refine K1 _ ?_
 refine yS fun _ K2 => ?_
 refine yR ?_
 refine yM rfl rfl ?_
 refine yM rfl rfl ?_
 refine aa rfl (mx rfl rfl rfl) ?_
 refine eo (fun hs => ?_) (fun hs => ?_)
 ·try replace hs := of_decide_eq_true hs
  refine yM rfl rfl ?_
  refine yM rfl rfl ?_
  refine yM rfl rfl ?_
  refine aa rfl (sj rfl rfl rfl) ?_
  refine aa rfl (cb rfl rfl (by constructor)) ?_
  refine yA rfl rfl ?_
  refine yN ?_
  dsimp only [St.put]
  refine K2 _ ?_
  refine ax ?_
  refine bg rfl (by constructor) zN zS ?_
  exact vb (by simp [inB, hs]; try omega)
 try replace hs := of_decide_eq_false hs
 refine yM rfl rfl ?_
 refine yK rfl ?_
 refine yK rfl ?_
 refine yK rfl ?_
 refine aa rfl (ct rfl rfl (by constructor)) ?_
 refine yA rfl rfl ?_
 refine yN ?_
 dsimp only [St.put]
 refine K2 _ ?_
 refine ax ?_
 refine bg rfl (by constructor) zN zS ?_
 exact vb (by simp [inB, hs]; try omega)
theorem uiy (t : ai) (ht : dr t = true) : Pure Tryz.prog 107 [ig t] (.v (.int .i64 (l6 t : Int))) := by
 refine c4 Tryz.func107 rfl (fun m => .v) fun G nx => ?_
 simp only [Tryz.ntmps107, List.length_cons, List.length_nil, Nat.reduceAdd, Nat.reduceSub]
 refine bx fun hlt => ?_
 dsimp only at hlt
 obtain ⟨hl1, hl2, hl3⟩ := ko ht
 refine yS fun _ K1 => ?_
 refine yR ?_
 try dsimp only [St.put]
 refine yB rfl rfl rfl ?_
 refine yA rfl rfl ?_
 refine yN ?_
 dsimp only [St.put]
 refine K1 _ ?_
 refine yS fun _ K2 => ?_
 refine yR ?_
 refine yA rfl rfl ?_
 refine yN ?_
 dsimp only [St.put]
 refine K2 _ ?_
 refine yS fun _ K3 => ?_
 refine yS fun _ K4 => ?_
 refine yR ?_
 refine yA rfl rfl ?_
 refine yN ?_
 dsimp only [St.put]
 refine K4 _ ?_
 refine bf ?_
 refine co 5 ?_
 refine zQ ?_
 refine c7 (G) zX ?_
 dsimp only
 refine c6 (X := Nat) (fun k => k ≤ t.length) (fun k => t.length - k) (fun k => [(3, .v (.int .i64 ((fy t k : Nat) : Int))), (4, .v (.int .i64 (k : Int)))]) (fun k G' => G') 0 rfl ?_ ?_ (fun _ _ h => h) ?_ ?_ ?_
 ·exact Nat.zero_le _
 ·exact zF
 ·rintro k hI
  exact zL
 ·exact fun _ _ _ _ h => .inl h
 rintro k hI
 dsimp only at hI ⊢
 refine yS fun _ K5 => ?_
 refine yS fun _ K6 => ?_
 refine yR ?_
 refine yM rfl rfl ?_
 refine yF rfl rfl rfl rfl ?_
 refine yL rfl rfl rfl ?_
 refine aa rfl (bi rfl rfl (List.length_map _)) ?_
 refine aa rfl (cn rfl rfl rfl) ?_
 refine yN ?_
 dsimp only [St.put]
 refine K6 _ ?_
 refine aq rfl (fun hc => ?_) (fun hc => ?_)
 ·replace hc := of_decide_eq_true hc
  obtain ⟨c, hk⟩ : ∃ x, t[k]? = some x := da (by omega)
  have hcl := hl3 c (f5 hk)
  have hst := uan ht k
  refine ay ?_
  refine K5 _ ?_
  refine yS fun _ K7 => ?_
  refine bf ?_
  refine yR ?_
  refine yM rfl rfl ?_
  refine yF rfl rfl rfl rfl ?_
  refine yL rfl rfl rfl ?_
  refine yM rfl rfl ?_
  refine aa rfl (br rfl rfl rfl rfl (bq (by assumption)) (Enc.len _)) ?_
  refine yF rfl rfl rfl rfl ?_
  refine yL rfl rfl rfl ?_
  refine aa rfl (bi rfl rfl (List.length_map _)) ?_
  refine aa rfl (bu rfl rfl rfl (by omega)) ?_
  refine yA rfl rfl ?_
  refine yN ?_
  dsimp only [St.put]
  refine K7 _ ?_
  refine yR ?_
  refine yM rfl rfl ?_
  refine aa rfl (bu rfl rfl rfl (by omega)) ?_
  refine yA rfl rfl ?_
  refine yN ?_
  dsimp only [St.put]
  have e := rq hk
  rw [show ((fy t k : Nat) : Int) + (c.lines.length : Int) = ((fy t (k + 1) : Nat) : Int) by rw [e]; rfl]
  exact ⟨k + 1, by omega, by omega, ⟨⟨rfl, rfl⟩, zF, zB, zN, zX⟩⟩
 replace hc := of_decide_eq_false hc
 obtain rfl : k = t.length := by omega
 refine cz ?_
 refine K3 _ ?_
 refine yS fun _ K8 => ?_
 refine yR ?_
 refine yM rfl rfl ?_
 refine yA rfl rfl ?_
 refine yN ?_
 dsimp only [St.put]
 refine K8 _ ?_
 refine ax ?_
 refine bg rfl (by constructor) zN zS ?_
 rfl
theorem xq (t : ai) (q : PlaceD) (ht : dr t = true) (hq : fp t q = true) : Pure Tryz.prog 25 [ig t, val q] (.v (.int .i64 (pt t q))) := by
 refine c4 Tryz.func25 rfl (fun m => .v) fun G nx => ?_
 simp only [Tryz.ntmps25, List.length_cons, List.length_nil, Nat.reduceAdd, Nat.reduceSub]
 refine bx fun hlt => ?_
 dsimp only at hlt
 obtain ⟨hl1, hl2, hl3⟩ := ko ht
 obtain ⟨kc, kn, kw, c0, l0, hqe, hkc, hkn, _⟩ := ubj hq
 have hkcl := (List.getElem?_eq_some_iff.1 hkc).1
 have hknl := (List.getElem?_eq_some_iff.1 hkn).1
 have hc0 := (hl3 c0 (f5 hkc)).2.1
 subst hqe
 refine yS fun _ K1 => ?_
 refine yR ?_
 try dsimp only [St.put]
 refine yB rfl rfl rfl ?_
 try dsimp only [St.put]
 refine yB rfl rfl rfl ?_
 refine yA rfl rfl ?_
 refine yN ?_
 dsimp only [St.put]
 refine K1 _ ?_
 refine yS fun _ K2 => ?_
 refine yR ?_
 refine yF rfl rfl rfl rfl ?_
 refine yL rfl rfl rfl ?_
 refine yA rfl rfl ?_
 refine yN ?_
 dsimp only [St.put]
 refine K2 _ ?_
 refine yS fun _ K3 => ?_
 refine yS fun _ K4 => ?_
 refine yR ?_
 refine yA rfl rfl ?_
 refine yN ?_
 dsimp only [St.put]
 refine K4 _ ?_
 refine bf ?_
 refine co 7 ?_
 refine zQ ?_
 refine c7 (G) zX ?_
 dsimp only
 refine c6 (X := Nat) (fun k => k ≤ kc) (fun k => kc - k) (fun k => [(5, .v (.int .i64 ((kn : Int) + ((fy t k : Nat) : Int)))), (6, .v (.int .i64 (k : Int)))]) (fun k G' => G') 0 rfl ?_ ?_ (fun _ _ h => h) ?_ ?_ ?_
 ·exact Nat.zero_le _
 ·exact zF
 ·rintro k hI
  exact zL
 ·exact fun _ _ _ _ h => .inl h
 rintro k hI
 dsimp only at hI ⊢
 refine yS fun _ K5 => ?_
 refine yS fun _ K6 => ?_
 refine yR ?_
 refine yM rfl rfl ?_
 refine yF rfl rfl rfl rfl ?_
 refine yL rfl rfl rfl ?_
 refine aa rfl (cn rfl rfl rfl) ?_
 refine yN ?_
 dsimp only [St.put]
 refine K6 _ ?_
 refine aq rfl (fun hc => ?_) (fun hc => ?_)
 ·replace hc := of_decide_eq_true hc
  obtain ⟨c, hk⟩ : ∃ x, t[k]? = some x := da (by omega)
  have hcl := hl3 c (f5 hk)
  have hst := uan ht k
  refine ay ?_
  refine K5 _ ?_
  refine yS fun _ K7 => ?_
  refine bf ?_
  refine yR ?_
  refine yM rfl rfl ?_
  refine yF rfl rfl rfl rfl ?_
  refine yL rfl rfl rfl ?_
  refine yM rfl rfl ?_
  refine aa rfl (br rfl rfl rfl rfl (bq (by assumption)) (Enc.len _)) ?_
  refine yF rfl rfl rfl rfl ?_
  refine yL rfl rfl rfl ?_
  refine aa rfl (bi rfl rfl (List.length_map _)) ?_
  refine aa rfl (bu rfl rfl rfl (by omega)) ?_
  refine yA rfl rfl ?_
  refine yN ?_
  dsimp only [St.put]
  refine K7 _ ?_
  refine yR ?_
  refine yM rfl rfl ?_
  refine aa rfl (bu rfl rfl rfl (by omega)) ?_
  refine yA rfl rfl ?_
  refine yN ?_
  dsimp only [St.put]
  have e := rq hk
  rw [show (kn : Int) + ((fy t k : Nat) : Int) + (c.lines.length : Int) = (kn : Int) + ((fy t (k + 1) : Nat) : Int) by rw [e, Int.natCast_add]; omega]
  exact ⟨k + 1, by omega, by omega, ⟨⟨rfl, rfl⟩, zF, zB, zN, zX⟩⟩
 replace hc := of_decide_eq_false hc
 obtain rfl : k = kc := by omega
 refine cz ?_
 refine K3 _ ?_
 refine yS fun _ K8 => ?_
 refine yR ?_
 refine yM rfl rfl ?_
 refine yA rfl rfl ?_
 refine yN ?_
 dsimp only [St.put]
 refine K8 _ ?_
 refine ax ?_
 refine bg rfl (by constructor) zN zS ?_
 exact vi (by unfold pt; rw [Int.toNat_natCast])
theorem ubb (l : List PlaceD) (q : PlaceD) (hl : l.length ≤ 1000) : Pure Tryz.prog 95 [lst l, val q] (.v (.bool (decide (q ∈ l)))) := by
 refine c4 Tryz.func95 rfl (fun m => .v) fun G nx => ?_
 simp only [Tryz.ntmps95, List.length_cons, List.length_nil, Nat.reduceAdd, Nat.reduceSub]
 refine bx fun hlt => ?_
 dsimp only at hlt
 refine yS fun _ K1 => ?_
 refine yR ?_
 try dsimp only [St.put]
 refine yB rfl rfl rfl ?_
 refine yA rfl rfl ?_
 refine yN ?_
 dsimp only [St.put]
 refine K1 _ ?_
 refine yS fun _ K2 => ?_
 refine yS fun _ K3 => ?_
 refine yR ?_
 refine yA rfl rfl ?_
 refine yN ?_
 dsimp only [St.put]
 refine K3 _ ?_
 refine bf ?_
 refine co 6 ?_
 refine zQ ?_
 refine c7 (G) zX ?_
 dsimp only
 refine c6 (X := Nat) (fun k => k ≤ l.length ∧ ∀ y ∈ l.take k, y ≠ q) (fun k => l.length - k) (fun k => [(5, .v (.int .i64 (k : Int)))]) (fun k G' => G') 0 rfl ?_ ?_ (fun _ _ h => h) ?_ ?_ ?_
 ·exact ⟨Nat.zero_le _, by simp⟩
 ·exact zF
 ·rintro k hI
  exact zL
 ·exact fun _ _ _ _ h => .inl h
 rintro k hI
 dsimp only at hI ⊢
 refine yS fun _ K4 => ?_
 refine yS fun _ K5 => ?_
 refine yR ?_
 refine yM rfl rfl ?_
 refine yM rfl rfl ?_
 refine aa rfl (bi rfl rfl (List.length_map _)) ?_
 refine aa rfl (cn rfl rfl rfl) ?_
 refine yN ?_
 dsimp only [St.put]
 refine K5 _ ?_
 refine aq rfl (fun hc => ?_) (fun hc => ?_)
 ·replace hc := of_decide_eq_true hc
  obtain ⟨y, hy⟩ : ∃ y, l[k]? = some y := da (by omega)
  refine ay ?_
  refine K4 _ ?_
  refine yS fun _ K6 => ?_
  refine bf ?_
  refine yS fun _ K7 => ?_
  refine fu [(0, none), (1, none), (2, none), (3, none), (4, none), (5, none)] (fun i => [].contains i) (fun i => [].contains i) (fun i => [0, 1, 2, 5].contains i) [] (by kernel_rfl) (by kernel_rfl) ?_
  refine xM rfl rfl rfl rfl rfl ?_
  refine xM rfl rfl rfl rfl rfl ?_
  try dsimp only [St.put]
  refine ae rfl rfl rfl rfl (br rfl rfl rfl rfl (bq (by assumption)) (Enc.len _)) ?_
  try dsimp only [St.put]
  refine bc rfl rfl rfl rfl (eh rfl rfl (Enc.len _)) ?_
  try dsimp only [St.put]
  refine bc rfl rfl rfl rfl (eh rfl rfl (Enc.len _)) ?_
  refine ae rfl rfl rfl rfl (kz (x := y) (y := q) rfl rfl rfl) ?_
  refine az ?_
  dsimp only [St.put]
  refine K7 _ ?_
  refine aq rfl (fun hc => ?_) (fun hc => ?_)
  ·have he : y = q := of_decide_eq_true hc
   refine yS fun _ K8 => ?_
   refine yR ?_
   refine yA rfl rfl ?_
   refine yN ?_
   dsimp only [St.put]
   refine K8 _ ?_
   refine ax ?_
   refine bg rfl (by constructor) zN zS ?_
   exact vb (decide_eq_true (he ▸ f5 hy)).symm
  have hne : y ≠ q := of_decide_eq_false hc
  refine ay ?_
  refine K6 _ ?_
  refine yR ?_
  refine yM rfl rfl ?_
  refine aa rfl (bu rfl rfl rfl (by omega)) ?_
  refine yA rfl rfl ?_
  refine yN ?_
  dsimp only [St.put]
  exact ⟨k + 1, by omega, ⟨by omega, ye (p := fun y => y ≠ q) hy hne hI.2⟩, ⟨⟨rfl, rfl⟩, zF, zB, zN, zX⟩⟩
 replace hc := of_decide_eq_false hc
 refine cz ?_
 refine K2 _ ?_
 refine yS fun _ K9 => ?_
 refine yR ?_
 refine yA rfl rfl ?_
 refine yN ?_
 dsimp only [St.put]
 refine K9 _ ?_
 refine ax ?_
 refine bg rfl (by constructor) zN zS ?_
 exact vb (by
  have := hI.2
  rw [gd (show l.length ≤ k by omega)] at this
  exact (decide_eq_false fun h => this q h rfl).symm)
theorem ube (a b : List Int) (ha : a.length ≤ 1000) : Pure Tryz.prog 19 [lst a, lst b] (.v (.bool (decide (a = b)))) := by
 refine c4 Tryz.func19 rfl (fun m => .v) fun G nx => ?_
 simp only [Tryz.ntmps19, List.length_cons, List.length_nil, Nat.reduceAdd, Nat.reduceSub]
 refine bx fun hlt => ?_
 dsimp only at hlt
 refine kh 1 (fun hfb => ?_)
 have hb := (fit_lst.1 hfb).1
 refine yS fun _ K1 => ?_
 refine yR ?_
 refine yA rfl rfl ?_
 refine yN ?_
 dsimp only [St.put]
 refine K1 _ ?_
 refine yS fun _ K2 => ?_
 refine yS fun _ K3 => ?_
 refine yR ?_
 refine yM rfl rfl ?_
 refine aa rfl (bi rfl rfl (List.length_map _)) ?_
 refine yM rfl rfl ?_
 refine aa rfl (bi rfl rfl (List.length_map _)) ?_
 refine aa rfl (fk rfl rfl rfl) ?_
 refine yN ?_
 dsimp only [St.put]
 refine K3 _ ?_
 refine aq rfl (fun hc => ?_) (fun hc => ?_)
 ·try replace hc := of_decide_eq_true hc
  refine yS fun _ K4 => ?_
  refine yR ?_
  refine yA rfl rfl ?_
  refine yN ?_
  dsimp only [St.put]
  refine K4 _ ?_
  refine ax ?_
  refine bg rfl (by constructor) zN zS ?_
  exact vb (by
   have : a ≠ b := fun e => by subst e; simp at hc
   simp [this])
 have hl : a.length = b.length := by
  have := ii hc
  omega
 refine ay ?_
 refine K2 _ ?_
 refine yS fun _ K5 => ?_
 refine yS fun _ K6 => ?_
 refine yR ?_
 refine yA rfl rfl ?_
 refine yN ?_
 dsimp only [St.put]
 refine K6 _ ?_
 refine bf ?_
 refine co 6 ?_
 refine zQ ?_
 refine c7 (G) zX ?_
 dsimp only
 refine c6 (X := Nat) (fun k => k ≤ a.length ∧ a.take k = b.take k) (fun k => a.length - k) (fun k => [(5, .v (.int .i64 (k : Int)))]) (fun k G' => G') 0 rfl ?_ ?_ (fun _ _ h => h) ?_ ?_ ?_
 ·exact ⟨Nat.zero_le _, by simp⟩
 ·exact zF
 ·rintro k hI
  exact zL
 ·exact fun _ _ _ _ h => .inl h
 rintro k hI
 dsimp only at hI ⊢
 refine yS fun _ K7 => ?_
 refine yS fun _ K8 => ?_
 refine yR ?_
 refine yM rfl rfl ?_
 refine yM rfl rfl ?_
 refine aa rfl (bi rfl rfl (List.length_map _)) ?_
 refine aa rfl (cn rfl rfl rfl) ?_
 refine yN ?_
 dsimp only [St.put]
 refine K8 _ ?_
 refine aq rfl (fun hc => ?_) (fun hc => ?_)
 ·replace hc := of_decide_eq_true hc
  obtain ⟨x, hx⟩ : ∃ x, a[k]? = some x := da (by omega)
  obtain ⟨y, hy⟩ : ∃ y, b[k]? = some y := da (by omega)
  refine ay ?_
  refine K7 _ ?_
  refine yS fun _ K9 => ?_
  refine bf ?_
  refine yS fun _ K10 => ?_
  refine fu [(0, none), (1, none), (2, none), (3, none), (4, none), (5, none), (6, none), (7, none), (8, none)] (fun i => [].contains i) (fun i => [].contains i) (fun i => [0, 1, 2, 4, 5, 6, 8].contains i) [] (by kernel_rfl) (by kernel_rfl) ?_
  refine xM rfl rfl rfl rfl rfl ?_
  refine xM rfl rfl rfl rfl rfl ?_
  try dsimp only [St.put]
  refine ae rfl rfl rfl rfl (br rfl rfl rfl rfl (bq (by assumption)) (Enc.len _)) ?_
  try dsimp only [St.put]
  refine bc rfl rfl rfl rfl (cg rfl rfl) ?_
  refine xM rfl rfl rfl rfl rfl ?_
  refine xM rfl rfl rfl rfl rfl ?_
  try dsimp only [St.put]
  refine ae rfl rfl rfl rfl (br rfl rfl rfl rfl (bq (by assumption)) (Enc.len _)) ?_
  try dsimp only [St.put]
  refine bc rfl rfl rfl rfl (cg rfl rfl) ?_
  refine ae rfl rfl rfl rfl (fk rfl rfl rfl) ?_
  refine az ?_
  dsimp only [St.put]
  refine K10 _ ?_
  refine aq rfl (fun hc => ?_) (fun hc => ?_)
  ·have hxy := jq hc
   refine yS fun _ K11 => ?_
   refine yR ?_
   refine yA rfl rfl ?_
   refine yN ?_
   dsimp only [St.put]
   refine K11 _ ?_
   refine ax ?_
   refine bg rfl (by constructor) zN zS ?_
   exact vb (by simp [ub8 hx hy hxy])
  have hxy := ii hc
  refine ay ?_
  refine K9 _ ?_
  refine yR ?_
  refine yM rfl rfl ?_
  refine aa rfl (bu rfl rfl rfl (by omega)) ?_
  refine yA rfl rfl ?_
  refine yN ?_
  dsimp only [St.put]
  exact ⟨k + 1, by omega, ⟨by omega, uae hI.2 hx (hxy ▸ hy)⟩, ⟨⟨rfl, rfl⟩, zF, zB, zN, zX⟩⟩
 replace hc := of_decide_eq_false hc
 refine cz ?_
 refine K5 _ ?_
 refine yS fun _ K12 => ?_
 refine yR ?_
 refine yA rfl rfl ?_
 refine yN ?_
 dsimp only [St.put]
 refine K12 _ ?_
 refine ax ?_
 refine bg rfl (by constructor) zN zS ?_
 exact vb (by
  have h1 := hI.2
  rw [gd (by omega), gd (by omega)] at h1
  simp [h1])
end Go.Proofs.YtbbdginipiljdaaGreatDoor
namespace Go.AB
open Go Go.RowKit
open Go.AB.Enc (cells)
open Go.PB (ba ai PlaceD bh bk bj bw ar ah cw bv dc dg)
theorem z8 {t : ai} {x : ar} {i : Nat} {q : PlaceD} (h : (dn t)[i]? = some q) : f7 t x ((dn t).take (i + 1)) = f7 t x ((dn t).take i) + bif fl t x q then 1 else 0 := by
 unfold f7
 rw [List.take_add_one, h, Option.toList_some, List.filter_append, List.length_append]
 cases hf : fl t x q <;> simp [hf]
def ji (x : ar) (b : Bool) (q : PlaceD) : Bool := bif b then decide (q ∈ x.found) && decide (q ∈ x.well) else decide (q ∈ x.found) || decide (q ∈ x.well)
/-- what is found, among the first places -/
def m6 (t : ai) (x : ar) (b : Bool) (i : Nat) : List PlaceD := ((dn t).take i).filter (ji x b)
theorem udh {t : ai} {x : ar} {b : Bool} {i : Nat} {q : PlaceD} (h : (dn t)[i]? = some q) : m6 t x b (i + 1) = m6 t x b i ++ bif ji x b q then [q] else [] := by
 unfold m6
 rw [List.take_add_one, h, Option.toList_some, List.filter_append]
 cases hf : ji x b q <;> simp [hf]
theorem ulz (t : ai) (x : ar) (b : Bool) : m6 t x b (dn t).length = bif b then c9 t x else cp t x := by
 unfold m6
 rw [List.take_length]
 cases b <;> rfl
theorem uly (t : ai) (x : ar) (b : Bool) (i : Nat) : (m6 t x b i).length ≤ (dn t).length := by
 unfold m6
 have := List.length_filter_le (ji x b) ((dn t).take i)
 rw [List.length_take] at this
 omega
theorem bit_eq {s k : Nat} : (((s / 2 ^ k % 2 : Nat) : Int) = 1) ↔ s.testBit k = true := by
 rw [Nat.testBit_eq_decide_div_mod_eq, decide_eq_true_eq]
 omega
end Go.AB
namespace Go.Proofs.YtbbdginipiljdaaGreatDoor
set_option maxRecDepth 10000
open Go.RowKit Go.AB
open Go.AB.Enc (cells)
open Go.PB (ba ai PlaceD bh bk bj bw ar ah cw bv dc dg)
theorem uix (p : ah) (j : Nat) (x : ar) (ht : dr p.text = true) (hx : p.pages[j]? = some x) : Pure Tryz.prog 73 [val p, .v (.int .i64 (j : Int))] (.v (.int .i64 (dp p.text x : Int))) := by
 refine c4 Tryz.func73 rfl (fun m => .v) fun G nx => ?_
 simp only [Tryz.ntmps73, List.length_cons, List.length_nil, Nat.reduceAdd, Nat.reduceSub]
 refine bx fun hlt => ?_
 dsimp only at hlt
 have hal := lg ht
 have hjl := (List.getElem?_eq_some_iff.1 hx).1
 refine yS fun _ K1 => ?_
 refine yR ?_
 try dsimp only [St.put]
 refine yB rfl rfl rfl ?_
 refine yA rfl rfl ?_
 refine yN ?_
 dsimp only [St.put]
 refine K1 _ ?_
 refine yS fun _ K2 => ?_
 refine yR ?_
 refine yA rfl rfl ?_
 refine yN ?_
 dsimp only [St.put]
 refine K2 _ ?_
 refine yS fun _ K3 => ?_
 refine yR ?_
 refine yF rfl rfl rfl rfl ?_
 try dsimp only [St.put]
 refine ci rfl (c := ig p.text) (jc (cs := cells p) rfl rfl (show 1 ≤ 4 by decide)) ?_
 try dsimp only [St.put]
 refine af rfl (bd rfl rfl rfl (ua8 p.text ht) ?_)
 refine yA rfl rfl ?_
 refine yN ?_
 dsimp only [St.put]
 refine K3 _ ?_
 refine yS fun _ K4 => ?_
 refine yS fun _ K5 => ?_
 refine yR ?_
 refine yA rfl rfl ?_
 refine yN ?_
 dsimp only [St.put]
 refine K5 _ ?_
 refine bf ?_
 refine co 8 ?_
 refine zQ ?_
 refine c7 (G) zX ?_
 dsimp only
 refine c6 (X := Nat) (fun i => i ≤ (dn p.text).length) (fun i => (dn p.text).length - i) (fun i => [(5, .v (.int .i64 ((f7 p.text x ((dn p.text).take i) : Nat) : Int))), (7, .v (.int .i64 (i : Int)))]) (fun i G' => G') 0 rfl ?_ ?_ (fun _ _ h => h) ?_ ?_ ?_
 ·exact Nat.zero_le _
 ·exact zF
 ·rintro i hI
  exact zL
 ·exact fun _ _ _ _ h => .inl h
 rintro i hI
 dsimp only at hI ⊢
 refine yS fun _ K6 => ?_
 refine yS fun _ K7 => ?_
 refine yR ?_
 refine yM rfl rfl ?_
 refine yM rfl rfl ?_
 refine aa rfl (bi rfl rfl (List.length_map _)) ?_
 refine aa rfl (cn rfl rfl rfl) ?_
 refine yN ?_
 dsimp only [St.put]
 refine K7 _ ?_
 refine aq rfl (fun hc => ?_) (fun hc => ?_)
 ·replace hc := of_decide_eq_true hc
  obtain ⟨q, hq⟩ : ∃ q, (dn p.text)[i]? = some q := da (by omega)
  have hqp := allQ_mem.1 (List.mem_of_getElem? hq)
  have hwl : f7 p.text x ((dn p.text).take i) ≤ (dn p.text).length := by
   unfold f7
   have := List.length_filter_le (fl p.text x) ((dn p.text).take i)
   rw [List.length_take] at this
   omega
  refine ay ?_
  refine K6 _ ?_
  refine yS fun _ K8 => ?_
  refine bf ?_
  refine yS fun _ K9 => ?_
  refine fu [(0, none), (1, none), (2, none), (3, none), (4, none), (5, none), (7, none), (8, none), (9, none), (10, none), (11, none), (12, none), (13, none), (14, none), (15, none), (16, none), (17, none), (18, none), (6, none), (19, none)] (fun i => [19].contains i) (fun i => [6, 19].contains i) (fun i => [0, 2, 3, 4, 7, 9, 10, 11, 13, 15, 16, 17].contains i) [] (by kernel_rfl) (by kernel_rfl) ?_
  refine ae rfl rfl rfl rfl (cv rfl rfl rfl) ?_
  try dsimp only [St.put]
  refine bc rfl rfl rfl rfl (c := ig p.text) (jc (cs := cells p) rfl rfl (show 1 ≤ 4 by decide)) ?_
  refine xM rfl rfl rfl rfl rfl ?_
  refine xM rfl rfl rfl rfl rfl ?_
  try dsimp only [St.put]
  refine ae rfl rfl rfl rfl (br rfl rfl rfl rfl (bq (by assumption)) (Enc.len _)) ?_
  try dsimp only [St.put]
  refine bc rfl rfl rfl rfl (eh rfl rfl (Enc.len _)) ?_
  refine ae rfl rfl rfl rfl (cv rfl rfl rfl) ?_
  try dsimp only [St.put]
  refine bc rfl rfl rfl rfl (cg rfl rfl) ?_
  refine xM rfl rfl rfl rfl rfl ?_
  try dsimp only [St.put]
  refine ae rfl rfl rfl rfl (br rfl rfl rfl rfl (bq (by assumption)) (Enc.len _)) ?_
  refine ae rfl rfl rfl rfl (cv rfl rfl rfl) ?_
  try dsimp only [St.put]
  refine bc rfl rfl rfl rfl (cg rfl rfl) ?_
  refine ae rfl rfl rfl rfl (cv rfl rfl rfl) ?_
  try dsimp only [St.put]
  refine bc rfl rfl rfl rfl (cg rfl rfl) ?_
  refine xM rfl rfl rfl rfl rfl ?_
  try dsimp only [St.put]
  refine ae rfl rfl rfl rfl (br rfl rfl rfl rfl (bq (by assumption)) (Enc.len _)) ?_
  refine ae rfl rfl rfl rfl (cv rfl rfl rfl) ?_
  try dsimp only [St.put]
  refine bc rfl rfl rfl rfl (cg rfl rfl) ?_
  refine g7 ?_
  try dsimp only [St.put]
  refine i9 rfl rfl rfl (bd rfl rfl rfl (xq p.text q ht hqp) ⟨zD, ?_⟩)
  try dsimp only [St.put]
  refine g4 rfl rfl rfl rfl (bd rfl rfl rfl (ox _ _ _) ?_)
  refine gw ?_
  dsimp only [St.put]
  refine K9 _ ?_
  refine aq rfl (fun hc => ?_) (fun hc => ?_)
  ·have hb : fl p.text x q = true := hc
   refine yR ?_
   refine yM rfl rfl ?_
   refine aa rfl (bu rfl rfl rfl (by omega)) ?_
   refine yA rfl rfl ?_
   refine yN ?_
   dsimp only [St.put]
   refine K8 _ ?_
   refine yR ?_
   refine yM rfl rfl ?_
   refine aa rfl (bu rfl rfl rfl (by omega)) ?_
   refine yA rfl rfl ?_
   refine yN ?_
   dsimp only [St.put]
   have e := z8 (x := x) hq
   first
   | (have z : fl p.text x q = true := hb
      rw [z, cond_true] at e
      rw [show ((f7 p.text x ((dn p.text).take i) : Nat) : Int) + 1 = ((f7 p.text x ((dn p.text).take (i + 1)) : Nat) : Int) by rw [e]; rfl]
      exact ⟨i + 1, by omega, by omega, ⟨⟨rfl, rfl⟩, zF, zB, zN, zX⟩⟩)
   | (have z : fl p.text x q = false := hb
      rw [show f7 p.text x ((dn p.text).take i) = f7 p.text x ((dn p.text).take (i + 1)) by rw [e, z]; rfl]
      exact ⟨i + 1, by omega, by omega, ⟨⟨rfl, rfl⟩, zF, zB, zN, zX⟩⟩)
  have hb : fl p.text x q = false := hc
  refine ay ?_
  refine K8 _ ?_
  refine yR ?_
  refine yM rfl rfl ?_
  refine aa rfl (bu rfl rfl rfl (by omega)) ?_
  refine yA rfl rfl ?_
  refine yN ?_
  dsimp only [St.put]
  have e := z8 (x := x) hq
  first
  | (have z : fl p.text x q = true := hb
     rw [z, cond_true] at e
     rw [show ((f7 p.text x ((dn p.text).take i) : Nat) : Int) + 1 = ((f7 p.text x ((dn p.text).take (i + 1)) : Nat) : Int) by rw [e]; rfl]
     exact ⟨i + 1, by omega, by omega, ⟨⟨rfl, rfl⟩, zF, zB, zN, zX⟩⟩)
  | (have z : fl p.text x q = false := hb
     rw [show f7 p.text x ((dn p.text).take i) = f7 p.text x ((dn p.text).take (i + 1)) by rw [e, z]; rfl]
     exact ⟨i + 1, by omega, by omega, ⟨⟨rfl, rfl⟩, zF, zB, zN, zX⟩⟩)
 replace hc := of_decide_eq_false hc
 obtain rfl : i = (dn p.text).length := by omega
 refine cz ?_
 refine K4 _ ?_
 refine yS fun _ K10 => ?_
 refine yR ?_
 refine yM rfl rfl ?_
 refine yA rfl rfl ?_
 refine yN ?_
 dsimp only [St.put]
 refine K10 _ ?_
 refine ax ?_
 refine bg rfl (by constructor) zN zS ?_
 exact vi (by rw [List.take_length]; rfl)
theorem uiz (p : ah) (j : Nat) (x : ar) (b : Bool) (ht : dr p.text = true) (hx : p.pages[j]? = some x) (hf : x.found.length ≤ 1000) (hw : x.well.length ≤ 1000) : Pure Tryz.prog 72 [val p, .v (.int .i64 (j : Int)), .v (.bool b)] (lst (bif b then c9 p.text x else cp p.text x)) := by
 refine c4 Tryz.func72 rfl (fun m => (b9 _ _)) fun G nx => ?_
 simp only [Tryz.ntmps72, List.length_cons, List.length_nil, Nat.reduceAdd, Nat.reduceSub]
 refine bx fun hlt => ?_
 dsimp only at hlt
 have hal := lg ht
 have hjl := (List.getElem?_eq_some_iff.1 hx).1
 refine yS fun _ K1 => ?_
 refine yR ?_
 try dsimp only [St.put]
 refine yB rfl rfl rfl ?_
 refine yA rfl rfl ?_
 refine yN ?_
 dsimp only [St.put]
 refine K1 _ ?_
 refine yS fun _ K2 => ?_
 refine yR ?_
 refine yA rfl rfl ?_
 refine yN ?_
 dsimp only [St.put]
 refine K2 _ ?_
 refine na 7 61 3 rfl (by decide) ?_
 dsimp only [List.set_cons_zero, List.set_cons_succ]
 refine yS fun _ K3 => ?_
 refine yR ?_
 refine yF rfl rfl rfl rfl ?_
 refine yL rfl rfl rfl ?_
 refine yM rfl rfl ?_
 refine aa rfl (br rfl rfl rfl rfl (bq (by assumption)) (Enc.len _)) ?_
 refine yE rfl rfl rfl ?_
 try dsimp only [St.put]
 refine af rfl (ed rfl ?_)
 try dsimp only [St.put]
 refine af rfl (dj rfl rfl rfl zG rfl rfl (by rfl) ?_)
 refine yN ?_
 dsimp only [St.put]
 refine K3 _ ?_
 refine gp (i := 8) rfl zG zC ?_
 dsimp only
 refine yS fun _ K4 => ?_
 refine yR ?_
 refine yF rfl rfl rfl rfl ?_
 try dsimp only [St.put]
 refine ci rfl (c := ig p.text) (jc (cs := cells p) rfl rfl (show 1 ≤ 4 by decide)) ?_
 try dsimp only [St.put]
 refine af rfl (bd rfl rfl rfl (ua8 p.text ht) ?_)
 refine yA rfl rfl ?_
 refine yN ?_
 dsimp only [St.put]
 refine K4 _ ?_
 refine yS fun _ K5 => ?_
 refine yS fun _ K6 => ?_
 refine yR ?_
 refine yA rfl rfl ?_
 refine yN ?_
 dsimp only [St.put]
 refine K6 _ ?_
 refine bf ?_
 refine co 13 ?_
 refine zQ ?_
 refine c7 ((am G nx (.tip (m6 p.text x b 0).length 61 3))) zX ?_
 dsimp only
 refine c6 (X := Nat) (fun i => i ≤ (dn p.text).length) (fun i => (dn p.text).length - i) (fun i => [(7, .list ((m6 p.text x b i).map cells) (.tip nx)), (10, .v (.int .i64 (i : Int))), (11, .any), (12, .any)]) (fun i G' => (am G nx (.tip (m6 p.text x b i).length 61 3))) 0 rfl ?_ ?_ ?_ ?_ ?_ ?_
 ·exact Nat.zero_le _
 ·exact zF
 ·exact zX
 ·rintro i hI
  exact zL
 ·rintro i hI
  exact zH
 rintro i hI
 dsimp only at hI ⊢
 refine yS fun _ K7 => ?_
 refine yS fun _ K8 => ?_
 refine yR ?_
 refine yM rfl rfl ?_
 refine yM rfl rfl ?_
 refine aa rfl (bi rfl rfl (List.length_map _)) ?_
 refine aa rfl (cn rfl rfl rfl) ?_
 refine yN ?_
 dsimp only [St.put]
 refine K8 _ ?_
 refine aq rfl (fun hc => ?_) (fun hc => ?_)
 ·replace hc := of_decide_eq_true hc
  obtain ⟨q, hq⟩ : ∃ q, (dn p.text)[i]? = some q := da (by omega)
  have hfl := uly p.text x b i
  refine ay ?_
  refine K7 _ ?_
  refine yS fun _ K9 => ?_
  refine bf ?_
  refine yS fun _ K10 => ?_
  refine fu [(0, none), (1, none), (2, none), (3, none), (4, none), (5, none), (7, none), (8, none), (9, none), (10, none), (11, none), (12, none), (6, none), (13, none), (14, none), (15, none)] (fun i => [13].contains i) (fun i => [6, 13].contains i) (fun i => [0, 2, 3, 4, 7, 9, 10, 11, 14, 15].contains i) [] (by kernel_rfl) (by kernel_rfl) ?_
  refine ae rfl rfl rfl rfl (cv rfl rfl rfl) ?_
  try dsimp only [St.put]
  refine bc rfl rfl rfl rfl (cg rfl rfl) ?_
  refine xM rfl rfl rfl rfl rfl ?_
  refine xM rfl rfl rfl rfl rfl ?_
  try dsimp only [St.put]
  refine ae rfl rfl rfl rfl (br rfl rfl rfl rfl (bq (by assumption)) (Enc.len _)) ?_
  try dsimp only [St.put]
  refine bc rfl rfl rfl rfl (eh rfl rfl (Enc.len _)) ?_
  refine ae rfl rfl rfl rfl (cv rfl rfl rfl) ?_
  try dsimp only [St.put]
  refine bc rfl rfl rfl rfl (cg rfl rfl) ?_
  refine xM rfl rfl rfl rfl rfl ?_
  refine xM rfl rfl rfl rfl rfl ?_
  try dsimp only [St.put]
  refine ae rfl rfl rfl rfl (br rfl rfl rfl rfl (bq (by assumption)) (Enc.len _)) ?_
  try dsimp only [St.put]
  refine bc rfl rfl rfl rfl (eh rfl rfl (Enc.len _)) ?_
  refine g7 ?_
  try dsimp only [St.put]
  refine i9 rfl rfl rfl (bd rfl rfl rfl (ubb x.found q hf) ⟨zD, ?_⟩)
  try dsimp only [St.put]
  refine g4 rfl rfl rfl rfl (bd rfl rfl rfl (ubb x.well q hw) ?_)
  refine dq rfl rfl rfl rfl (fa rfl (by constructor)) ?_
  refine dq rfl rfl rfl rfl (fa rfl (by constructor)) ?_
  refine gw ?_
  dsimp only [St.put]
  refine K10 _ ?_
  refine co 13 ?_
  refine zQ ?_
  refine j4 (X := Bool) (fun d => ji x b q = d) (fun d => [(54, .v (.bool d))]) (fun d G' => G') rfl ?_ (fun _ _ _ _ h => .inl h) ?_ ?_
  ·rintro d hI
   exact zL
  ·refine yR ?_
   refine yM rfl rfl ?_
   refine yM rfl rfl ?_
   refine eo (fun hs => ?_) (fun hs => ?_)
   ·have s1 := hs
    refine yM rfl rfl ?_
    refine aa rfl (cb rfl rfl (by constructor)) ?_
    refine eo (fun hs => ?_) (fun hs => ?_)
    ·have s3 := hs
     refine yM rfl rfl ?_
     refine yK rfl ?_
     refine yK rfl ?_
     refine yK rfl ?_
     refine yK rfl ?_
     refine yK rfl ?_
     refine yK rfl ?_
     refine yK rfl ?_
     refine yK rfl ?_
     refine aa rfl (cb rfl rfl (by constructor)) ?_
     refine yN ?_
     dsimp only [St.put]
     refine ⟨_, ?_, ⟨⟨rfl, rfl⟩, zF, zB, zN, zX⟩⟩
     cases b <;> simp_all [ji]
    have s3 := hs
    refine yM rfl rfl ?_
    refine yM rfl rfl ?_
    refine aa rfl (dw rfl rfl) ?_
    refine eo (fun hs => ?_) (fun hs => ?_)
    ·have s6 := hs
     refine yM rfl rfl ?_
     refine yM rfl rfl ?_
     refine eo (fun hs => ?_) (fun hs => ?_)
     ·have s8 := hs
      refine yM rfl rfl ?_
      refine yK rfl ?_
      refine aa rfl (cb rfl rfl (by constructor)) ?_
      refine aa rfl (cb rfl rfl (by constructor)) ?_
      refine aa rfl (ct rfl rfl (by constructor)) ?_
      refine yN ?_
      dsimp only [St.put]
      refine ⟨_, ?_, ⟨⟨rfl, rfl⟩, zF, zB, zN, zX⟩⟩
      cases b <;> simp_all [ji]
     have s8 := hs
     refine yM rfl rfl ?_
     refine yM rfl rfl ?_
     refine aa rfl (ct rfl rfl (by constructor)) ?_
     refine aa rfl (cb rfl rfl (by constructor)) ?_
     refine aa rfl (ct rfl rfl (by constructor)) ?_
     refine yN ?_
     dsimp only [St.put]
     refine ⟨_, ?_, ⟨⟨rfl, rfl⟩, zF, zB, zN, zX⟩⟩
     cases b <;> simp_all [ji]
    have s6 := hs
    refine yM rfl rfl ?_
    refine yK rfl ?_
    refine yK rfl ?_
    refine yK rfl ?_
    refine yK rfl ?_
    refine aa rfl (ct rfl rfl (by constructor)) ?_
    refine aa rfl (ct rfl rfl (by constructor)) ?_
    refine yN ?_
    dsimp only [St.put]
    refine ⟨_, ?_, ⟨⟨rfl, rfl⟩, zF, zB, zN, zX⟩⟩
    cases b <;> simp_all [ji]
   have s1 := hs
   refine yK rfl ?_
   refine aa rfl (ct rfl rfl (by constructor)) ?_
   refine yM rfl rfl ?_
   refine yM rfl rfl ?_
   refine aa rfl (dw rfl rfl) ?_
   refine eo (fun hs => ?_) (fun hs => ?_)
   ·have s6 := hs
    refine yM rfl rfl ?_
    refine yM rfl rfl ?_
    refine eo (fun hs => ?_) (fun hs => ?_)
    ·have s8 := hs
     refine yM rfl rfl ?_
     refine yK rfl ?_
     refine aa rfl (cb rfl rfl (by constructor)) ?_
     refine aa rfl (cb rfl rfl (by constructor)) ?_
     refine aa rfl (ct rfl rfl (by constructor)) ?_
     refine yN ?_
     dsimp only [St.put]
     refine ⟨_, ?_, ⟨⟨rfl, rfl⟩, zF, zB, zN, zX⟩⟩
     cases b <;> simp_all [ji]
    have s8 := hs
    refine yM rfl rfl ?_
    refine yM rfl rfl ?_
    refine aa rfl (ct rfl rfl (by constructor)) ?_
    refine aa rfl (cb rfl rfl (by constructor)) ?_
    refine aa rfl (ct rfl rfl (by constructor)) ?_
    refine yN ?_
    dsimp only [St.put]
    refine ⟨_, ?_, ⟨⟨rfl, rfl⟩, zF, zB, zN, zX⟩⟩
    cases b <;> simp_all [ji]
   have s6 := hs
   refine yM rfl rfl ?_
   refine yK rfl ?_
   refine yK rfl ?_
   refine yK rfl ?_
   refine yK rfl ?_
   refine aa rfl (ct rfl rfl (by constructor)) ?_
   refine aa rfl (ct rfl rfl (by constructor)) ?_
   refine yN ?_
   dsimp only [St.put]
   refine ⟨_, ?_, ⟨⟨rfl, rfl⟩, zF, zB, zN, zX⟩⟩
   cases b <;> simp_all [ji]
  rintro d hst
  dsimp only at hst ⊢
  refine aq rfl (fun hc => ?_) (fun hc => ?_)
  ·have hb : ji x b q = true := hst.trans hc
   refine yR ?_
   refine yM rfl rfl ?_
   refine yM rfl rfl ?_
   refine yM rfl rfl ?_
   refine aa rfl (br rfl rfl rfl rfl (bq (by assumption)) (Enc.len _)) ?_
   refine yE rfl rfl rfl ?_
   try dsimp only [St.put]
   refine af rfl (ca rfl rfl rfl (by decide) (by decide) zR (by decide) ?_)
   try dsimp only [St.put]
   refine af rfl (ce ([q]) rfl rfl zG zE rfl rfl zA ?_ zA)
   refine yA rfl rfl ?_
   refine yN ?_
   dsimp only [St.put]
   refine K9 _ ?_
   refine yR ?_
   refine yM rfl rfl ?_
   refine aa rfl (bu rfl rfl rfl (by omega)) ?_
   refine yA rfl rfl ?_
   refine yN ?_
   dsimp only [St.put]
   have e := udh (x := x) (b := b) hq
   first
   | (have z : ji x b q = true := hb
      rw [z, cond_true] at e
      rw [← e]
      exact ⟨i + 1, by omega, by omega, ⟨⟨rfl, rfl⟩, zF, zB, zN, zX⟩⟩)
   | (have z : ji x b q = false := hb
      rw [z, cond_false, List.append_nil] at e
      rw [← e]
      exact ⟨i + 1, by omega, by omega, ⟨⟨rfl, rfl⟩, zF, zB, zN, zX⟩⟩)
  have hb : ji x b q = false := hst.trans hc
  refine ay ?_
  refine K9 _ ?_
  refine yR ?_
  refine yM rfl rfl ?_
  refine aa rfl (bu rfl rfl rfl (by omega)) ?_
  refine yA rfl rfl ?_
  refine yN ?_
  dsimp only [St.put]
  have e := udh (x := x) (b := b) hq
  first
  | (have z : ji x b q = true := hb
     rw [z, cond_true] at e
     rw [← e]
     exact ⟨i + 1, by omega, by omega, ⟨⟨rfl, rfl⟩, zF, zB, zN, zX⟩⟩)
  | (have z : ji x b q = false := hb
     rw [z, cond_false, List.append_nil] at e
     rw [← e]
     exact ⟨i + 1, by omega, by omega, ⟨⟨rfl, rfl⟩, zF, zB, zN, zX⟩⟩)
 replace hc := of_decide_eq_false hc
 obtain rfl : i = (dn p.text).length := by omega
 have hfin := ulz p.text x b
 refine cz ?_
 refine K5 _ ?_
 refine yS fun _ K12 => ?_
 refine yR ?_
 refine yM rfl rfl ?_
 refine yA rfl rfl ?_
 refine yN ?_
 dsimp only [St.put]
 refine K12 _ ?_
 refine ax ?_
 refine o9 rfl (eg (by constructor)) zN zS ?_
 rw [← hfin]
 exact zW
end Go.Proofs.YtbbdginipiljdaaGreatDoor
namespace Go.AB
open Go Go.RowKit
open Go.AB.Enc (cells)
open Go.PB (ba ai PlaceD bh bk bj bw ar ah cw bv dc dg)
theorem ue {l : List ar} {g : ar → Nat} (k : Nat) : cr (l.take k) g ≤ cr l g := by
 have h : cr l g = cr (l.take k) g + cr (l.drop k) g := by
  unfold cr
  rw [← List.sum_append, ← List.map_append, List.take_append_drop]
 omega
theorem uck {p : ah} {b : Bool} {i : Nat} {r : bw} (h : (dv p b)[i]? = some r) : k6 p b i = r.miss := by unfold k6; rw [h]
theorem umb (R : Nat → Int) (S : Nat → Bool) (k : Nat) : fR R S (k + 1) = fR R S k + bif S k then R k else 0 := rfl
theorem udy (p : ah) (C : Nat → Int) (S : Nat → Bool) (k : Nat) : fC p C S (k + 1) = fC p C S k + bif (bt p).hit S k then 0 else C k := rfl
end Go.AB
namespace Go.Proofs.YtbbdginipiljdaaGreatDoor
set_option maxRecDepth 10000
open Go.RowKit Go.AB
open Go.AB.Enc (cells)
open Go.PB (ba ai PlaceD bh bk bj bw ar ah cw bv dc dg)
theorem uba (p : ah) (j : Nat) (x : ar) (b : Bool) (i : Int) (hx : p.pages[j]? = some x) : Pure Tryz.prog 74 [val p, .v (.int .i64 (j : Int)), .v (.bool b), .v (.int .i64 i)] (.v (.bool (decide (ec b x = i)))) := by
 refine c4 Tryz.func74 rfl (fun m => .v) fun G nx => ?_
 simp only [Tryz.ntmps74, List.length_cons, List.length_nil, Nat.reduceAdd, Nat.reduceSub]
 refine bx fun hlt => ?_
 dsimp only at hlt
 have hjl := (List.getElem?_eq_some_iff.1 hx).1
 refine yS fun _ K1 => ?_
 refine yR ?_
 try dsimp only [St.put]
 refine yB rfl rfl rfl ?_
 refine yA rfl rfl ?_
 refine yN ?_
 dsimp only [St.put]
 refine K1 _ ?_
 refine yS fun _ K2 => ?_
 refine yS fun _ K3 => ?_
 refine yR ?_
 refine yM rfl rfl ?_
 refine yN ?_
 dsimp only [St.put]
 refine K3 _ ?_
 refine aq rfl (fun hc => ?_) (fun hc => ?_)
 ·have hb : b = true := hc
  refine yS fun _ K4 => ?_
  refine yR ?_
  refine yF rfl rfl rfl rfl ?_
  refine yL rfl rfl rfl ?_
  refine yM rfl rfl ?_
  refine aa rfl (br rfl rfl rfl rfl (bq (by assumption)) (Enc.len _)) ?_
  refine yF rfl rfl rfl rfl ?_
  refine yL rfl rfl rfl ?_
  refine yM rfl rfl ?_
  refine aa rfl (fm rfl rfl rfl) ?_
  refine yA rfl rfl ?_
  refine yN ?_
  dsimp only [St.put]
  refine K4 _ ?_
  refine ax ?_
  refine bg rfl (by constructor) zN zS ?_
  exact vb (by rw [hb]; rfl)
 have hb : b = false := hc
 refine ay ?_
 refine K2 _ ?_
 refine yS fun _ K5 => ?_
 refine yR ?_
 refine yF rfl rfl rfl rfl ?_
 refine yL rfl rfl rfl ?_
 refine yM rfl rfl ?_
 refine aa rfl (br rfl rfl rfl rfl (bq (by assumption)) (Enc.len _)) ?_
 refine yF rfl rfl rfl rfl ?_
 refine yL rfl rfl rfl ?_
 refine yM rfl rfl ?_
 refine aa rfl (fm rfl rfl rfl) ?_
 refine yA rfl rfl ?_
 refine yN ?_
 dsimp only [St.put]
 refine K5 _ ?_
 refine ax ?_
 refine bg rfl (by constructor) zN zS ?_
 exact vb (by rw [hb]; rfl)
theorem ubc (p : ah) (j : Nat) (x : ar) (ht : dr p.text = true) (hx : p.pages[j]? = some x) (hf : x.found.length ≤ 1000) (hw : x.well.length ≤ 1000) : Pure Tryz.prog 72 [val p, .v (.int .i64 (j : Int)), .v (.bool false)] (lst (cp p.text x)) := uiz p j x false ht hx hf hw
set_option maxHeartbeats 1000000 in
theorem ui0 (p : ah) (b : Bool) (i : Nat) (h : ef p) (hi : i < (dv p b).length) : Pure Tryz.prog 75 [val p, .v (.bool b), .v (.int .i64 (i : Int))] (.tup [.v (.int .i64 (ju p b i)), .v (.int .i64 (k9 p b i))]) := by
 refine c4 Tryz.func75 rfl (fun m => .tup (cm .v (cm .v di))) fun G nx => ?_
 simp only [Tryz.ntmps75, List.length_cons, List.length_nil, Nat.reduceAdd, Nat.reduceSub]
 refine bx fun hlt => ?_
 dsimp only at hlt
 have hown := xy h b (i : Int)
 have hrd := xp h b (i : Int)
 have hal := lg h.text
 have hnp := h.np
 have hmb := yc h b i
 obtain ⟨r, hr⟩ : ∃ r, (dv p b)[i]? = some r := da hi
 have hmr := uck hr
 refine yS fun _ K1 => ?_
 refine yR ?_
 try dsimp only [St.put]
 refine yB rfl rfl rfl ?_
 refine yA rfl rfl ?_
 refine yA rfl rfl ?_
 refine yN ?_
 dsimp only [St.put]
 refine K1 _ ?_
 refine yS fun _ K2 => ?_
 refine yR ?_
 refine yA rfl rfl ?_
 refine yA rfl rfl ?_
 refine yN ?_
 dsimp only [St.put]
 refine K2 _ ?_
 refine yS fun _ K3 => ?_
 refine yS fun _ K4 => ?_
 refine yR ?_
 refine yA rfl rfl ?_
 refine yN ?_
 dsimp only [St.put]
 refine K4 _ ?_
 refine bf ?_
 refine co 13 ?_
 refine zQ ?_
 refine c7 (G) zX ?_
 dsimp only
 refine c6 (X := Nat) (fun k => k ≤ p.pages.length) (fun k => p.pages.length - k) (fun k => [(8, .v (.int .i64 ((cr (p.pages.take k) (dh b (i : Int)) : Nat) : Int))), (9, .v (.int .i64 ((cr (p.pages.take k) (dx p.text b (i : Int)) : Nat) : Int))), (10, .v (.int .i64 (k : Int)))]) (fun k G' => G') 0 rfl ?_ ?_ (fun _ _ h => h) ?_ ?_ ?_
 ·exact Nat.zero_le _
 ·exact zF
 ·rintro k hI
  exact zL
 ·exact fun _ _ _ _ h => .inl h
 rintro k hI
 dsimp only at hI ⊢
 refine yS fun _ K5 => ?_
 refine yS fun _ K6 => ?_
 refine yR ?_
 refine yM rfl rfl ?_
 refine yF rfl rfl rfl rfl ?_
 refine yL rfl rfl rfl ?_
 refine aa rfl (bi rfl rfl (List.length_map _)) ?_
 refine aa rfl (cn rfl rfl rfl) ?_
 refine yN ?_
 dsimp only [St.put]
 refine K6 _ ?_
 refine aq rfl (fun hc => ?_) (fun hc => ?_)
 ·replace hc := of_decide_eq_true hc
  obtain ⟨x, hx⟩ : ∃ x, p.pages[k]? = some x := da (by omega)
  have hp := pageB_true.1 (h.page k x hx)
  have hfl := lp hp.found
  have hwl := lp hp.well
  have hgl := qy p.text x
  have ht1 := ue (l := p.pages) (g := dh b (i : Int)) k
  have ht2 := ue (l := p.pages) (g := dx p.text b (i : Int)) k
  refine ay ?_
  refine K5 _ ?_
  refine yS fun _ K7 => ?_
  refine bf ?_
  refine yS fun _ K8 => ?_
  refine yS fun _ K9 => ?_
  refine yR ?_
  refine yE rfl rfl rfl ?_
  refine yM rfl rfl ?_
  refine yM rfl rfl ?_
  refine yM rfl rfl ?_
  try dsimp only [St.put]
  refine af rfl (bd rfl rfl rfl (uba p k x b (i : Int) hx) ?_)
  refine aa rfl (dw rfl rfl) ?_
  refine yN ?_
  dsimp only [St.put]
  refine K9 _ ?_
  refine aq rfl (fun hc => ?_) (fun hc => ?_)
  ·have hno : ¬ ec b x = (i : Int) := by simpa using hc
   refine cz ?_
   refine K7 _ ?_
   refine yR ?_
   refine yM rfl rfl ?_
   refine aa rfl (bu rfl rfl rfl (by omega)) ?_
   refine yA rfl rfl ?_
   refine yN ?_
   dsimp only [St.put]
   have e1 := ly (g := dh b (i : Int)) hx
   have e2 := ly (g := dx p.text b (i : Int)) hx
   first
   | (have z : ¬ ec b x = (i : Int) := hno
      rw [show cr (p.pages.take k) (dh b (i : Int)) = cr (p.pages.take (k + 1)) (dh b (i : Int)) by rw [e1]; unfold dh; rw [decide_eq_false z]; rfl, show cr (p.pages.take k) (dx p.text b (i : Int)) = cr (p.pages.take (k + 1)) (dx p.text b (i : Int)) by rw [e2]; unfold dx; rw [decide_eq_false z]; rfl]
      exact ⟨k + 1, by omega, by omega, ⟨⟨rfl, rfl⟩, zF, zB, zN, zX⟩⟩)
   | (have z : b = true := hb
      rw [show ((cr (p.pages.take k) (dh b (i : Int)) : Nat) : Int) + (x.well.length : Int) = ((cr (p.pages.take (k + 1)) (dh b (i : Int)) : Nat) : Int) by rw [e1]; unfold dh; rw [decide_eq_true hyes, cond_true, z]; rfl, show ((cr (p.pages.take k) (dx p.text b (i : Int)) : Nat) : Int) + ((cp p.text x).length : Int) = ((cr (p.pages.take (k + 1)) (dx p.text b (i : Int)) : Nat) : Int) by rw [e2]; unfold dx; rw [decide_eq_true hyes, cond_true]; rfl]
      exact ⟨k + 1, by omega, by omega, ⟨⟨rfl, rfl⟩, zF, zB, zN, zX⟩⟩)
   | (have z : b = false := hb
      rw [show ((cr (p.pages.take k) (dh b (i : Int)) : Nat) : Int) + (x.found.length : Int) = ((cr (p.pages.take (k + 1)) (dh b (i : Int)) : Nat) : Int) by rw [e1]; unfold dh; rw [decide_eq_true hyes, cond_true, z]; rfl, show ((cr (p.pages.take k) (dx p.text b (i : Int)) : Nat) : Int) + ((cp p.text x).length : Int) = ((cr (p.pages.take (k + 1)) (dx p.text b (i : Int)) : Nat) : Int) by rw [e2]; unfold dx; rw [decide_eq_true hyes, cond_true]; rfl]
      exact ⟨k + 1, by omega, by omega, ⟨⟨rfl, rfl⟩, zF, zB, zN, zX⟩⟩)
  have hyes : ec b x = (i : Int) := by simpa using hc
  refine ay ?_
  refine K8 _ ?_
  refine yS fun _ K10 => ?_
  refine yR ?_
  refine yM rfl rfl ?_
  refine yE rfl rfl rfl ?_
  refine yM rfl rfl ?_
  try dsimp only [St.put]
  refine af rfl (bd rfl rfl rfl (ubc p k x h.text hx (by omega) (by omega)) ?_)
  refine aa rfl (bi rfl rfl (List.length_map _)) ?_
  refine aa rfl (bu rfl rfl rfl (by omega)) ?_
  refine yA rfl rfl ?_
  refine yN ?_
  dsimp only [St.put]
  refine K10 _ ?_
  refine yS fun _ K11 => ?_
  refine yR ?_
  refine yM rfl rfl ?_
  refine yN ?_
  dsimp only [St.put]
  refine K11 _ ?_
  refine aq rfl (fun hc => ?_) (fun hc => ?_)
  ·have hb : b = true := hc
   refine yR ?_
   refine yM rfl rfl ?_
   refine yF rfl rfl rfl rfl ?_
   refine yL rfl rfl rfl ?_
   refine yM rfl rfl ?_
   refine aa rfl (br rfl rfl rfl rfl (bq (by assumption)) (Enc.len _)) ?_
   refine yF rfl rfl rfl rfl ?_
   refine yL rfl rfl rfl ?_
   refine aa rfl (bi rfl rfl (List.length_map _)) ?_
   refine aa rfl (bu rfl rfl rfl (by omega)) ?_
   refine yA rfl rfl ?_
   refine yN ?_
   dsimp only [St.put]
   refine K7 _ ?_
   refine yR ?_
   refine yM rfl rfl ?_
   refine aa rfl (bu rfl rfl rfl (by omega)) ?_
   refine yA rfl rfl ?_
   refine yN ?_
   dsimp only [St.put]
   have e1 := ly (g := dh b (i : Int)) hx
   have e2 := ly (g := dx p.text b (i : Int)) hx
   first
   | (have z : ¬ ec b x = (i : Int) := hno
      rw [show cr (p.pages.take k) (dh b (i : Int)) = cr (p.pages.take (k + 1)) (dh b (i : Int)) by rw [e1]; unfold dh; rw [decide_eq_false z]; rfl, show cr (p.pages.take k) (dx p.text b (i : Int)) = cr (p.pages.take (k + 1)) (dx p.text b (i : Int)) by rw [e2]; unfold dx; rw [decide_eq_false z]; rfl]
      exact ⟨k + 1, by omega, by omega, ⟨⟨rfl, rfl⟩, zF, zB, zN, zX⟩⟩)
   | (have z : b = true := hb
      rw [show ((cr (p.pages.take k) (dh b (i : Int)) : Nat) : Int) + (x.well.length : Int) = ((cr (p.pages.take (k + 1)) (dh b (i : Int)) : Nat) : Int) by rw [e1]; unfold dh; rw [decide_eq_true hyes, cond_true, z]; rfl, show ((cr (p.pages.take k) (dx p.text b (i : Int)) : Nat) : Int) + ((cp p.text x).length : Int) = ((cr (p.pages.take (k + 1)) (dx p.text b (i : Int)) : Nat) : Int) by rw [e2]; unfold dx; rw [decide_eq_true hyes, cond_true]; rfl]
      exact ⟨k + 1, by omega, by omega, ⟨⟨rfl, rfl⟩, zF, zB, zN, zX⟩⟩)
   | (have z : b = false := hb
      rw [show ((cr (p.pages.take k) (dh b (i : Int)) : Nat) : Int) + (x.found.length : Int) = ((cr (p.pages.take (k + 1)) (dh b (i : Int)) : Nat) : Int) by rw [e1]; unfold dh; rw [decide_eq_true hyes, cond_true, z]; rfl, show ((cr (p.pages.take k) (dx p.text b (i : Int)) : Nat) : Int) + ((cp p.text x).length : Int) = ((cr (p.pages.take (k + 1)) (dx p.text b (i : Int)) : Nat) : Int) by rw [e2]; unfold dx; rw [decide_eq_true hyes, cond_true]; rfl]
      exact ⟨k + 1, by omega, by omega, ⟨⟨rfl, rfl⟩, zF, zB, zN, zX⟩⟩)
  have hb : b = false := hc
  refine yR ?_
  refine yM rfl rfl ?_
  refine yF rfl rfl rfl rfl ?_
  refine yL rfl rfl rfl ?_
  refine yM rfl rfl ?_
  refine aa rfl (br rfl rfl rfl rfl (bq (by assumption)) (Enc.len _)) ?_
  refine yF rfl rfl rfl rfl ?_
  refine yL rfl rfl rfl ?_
  refine aa rfl (bi rfl rfl (List.length_map _)) ?_
  refine aa rfl (bu rfl rfl rfl (by omega)) ?_
  refine yA rfl rfl ?_
  refine yN ?_
  dsimp only [St.put]
  refine K7 _ ?_
  refine yR ?_
  refine yM rfl rfl ?_
  refine aa rfl (bu rfl rfl rfl (by omega)) ?_
  refine yA rfl rfl ?_
  refine yN ?_
  dsimp only [St.put]
  have e1 := ly (g := dh b (i : Int)) hx
  have e2 := ly (g := dx p.text b (i : Int)) hx
  first
  | (have z : ¬ ec b x = (i : Int) := hno
     rw [show cr (p.pages.take k) (dh b (i : Int)) = cr (p.pages.take (k + 1)) (dh b (i : Int)) by rw [e1]; unfold dh; rw [decide_eq_false z]; rfl, show cr (p.pages.take k) (dx p.text b (i : Int)) = cr (p.pages.take (k + 1)) (dx p.text b (i : Int)) by rw [e2]; unfold dx; rw [decide_eq_false z]; rfl]
     exact ⟨k + 1, by omega, by omega, ⟨⟨rfl, rfl⟩, zF, zB, zN, zX⟩⟩)
  | (have z : b = true := hb
     rw [show ((cr (p.pages.take k) (dh b (i : Int)) : Nat) : Int) + (x.well.length : Int) = ((cr (p.pages.take (k + 1)) (dh b (i : Int)) : Nat) : Int) by rw [e1]; unfold dh; rw [decide_eq_true hyes, cond_true, z]; rfl, show ((cr (p.pages.take k) (dx p.text b (i : Int)) : Nat) : Int) + ((cp p.text x).length : Int) = ((cr (p.pages.take (k + 1)) (dx p.text b (i : Int)) : Nat) : Int) by rw [e2]; unfold dx; rw [decide_eq_true hyes, cond_true]; rfl]
     exact ⟨k + 1, by omega, by omega, ⟨⟨rfl, rfl⟩, zF, zB, zN, zX⟩⟩)
  | (have z : b = false := hb
     rw [show ((cr (p.pages.take k) (dh b (i : Int)) : Nat) : Int) + (x.found.length : Int) = ((cr (p.pages.take (k + 1)) (dh b (i : Int)) : Nat) : Int) by rw [e1]; unfold dh; rw [decide_eq_true hyes, cond_true, z]; rfl, show ((cr (p.pages.take k) (dx p.text b (i : Int)) : Nat) : Int) + ((cp p.text x).length : Int) = ((cr (p.pages.take (k + 1)) (dx p.text b (i : Int)) : Nat) : Int) by rw [e2]; unfold dx; rw [decide_eq_true hyes, cond_true]; rfl]
     exact ⟨k + 1, by omega, by omega, ⟨⟨rfl, rfl⟩, zF, zB, zN, zX⟩⟩)
 replace hc := of_decide_eq_false hc
 obtain rfl : k = p.pages.length := by omega
 refine cz ?_
 refine K3 _ ?_
 refine yS fun _ K12 => ?_
 refine yR ?_
 refine yA rfl rfl ?_
 refine yN ?_
 dsimp only [St.put]
 rw [gd (Nat.le_refl p.pages.length)]
 refine K12 _ ?_
 refine yS fun _ K13 => ?_
 refine yS fun _ K14 => ?_
 refine yR ?_
 refine yM rfl rfl ?_
 refine yN ?_
 dsimp only [St.put]
 refine K14 _ ?_
 refine aq rfl (fun hc => ?_) (fun hc => ?_)
 ·have hb2 : b = true := hc
  have hr2 : p.seconds[i]? = some r := by rw [hb2] at hr; exact hr
  have hil := (List.getElem?_eq_some_iff.1 hr2).1
  refine yR ?_
  refine yF rfl rfl rfl rfl ?_
  refine yL rfl rfl rfl ?_
  refine yM rfl rfl ?_
  refine aa rfl (br rfl rfl rfl rfl (bq (by assumption)) (Enc.len _)) ?_
  refine yF rfl rfl rfl rfl ?_
  refine yL rfl rfl rfl ?_
  refine yA rfl rfl ?_
  refine yN ?_
  dsimp only [St.put]
  refine K13 _ ?_
  refine yS fun _ K15 => ?_
  refine yR ?_
  refine yM rfl rfl ?_
  refine aa rfl (si rfl rfl rfl (by omega)) ?_
  refine yM rfl rfl ?_
  refine aa rfl (f4 rfl rfl rfl (by omega)) ?_
  refine aa rfl (sg rfl rfl rfl (by omega) (by omega)) ?_
  refine yA rfl rfl ?_
  refine yN ?_
  dsimp only [St.put]
  rw [show (100 * ((cr p.pages (dh b (i : Int)) : Nat) : Int)) / (100 - r.miss) = ju p b i by unfold ju; rw [hmr]]
  have hbd := wc h b i
  refine K15 _ ?_
  refine yS fun _ K16 => ?_
  refine yR ?_
  refine yM rfl rfl ?_
  refine yM rfl rfl ?_
  refine yM rfl rfl ?_
  refine aa rfl (f4 rfl rfl rfl (by omega)) ?_
  refine yA rfl rfl ?_
  refine yA rfl rfl ?_
  refine yN ?_
  dsimp only [St.put]
  refine K16 _ ?_
  refine ax ?_
  refine js rfl (by constructor) (by constructor) zN zS ?_ ?_
  ·rfl
  exact vi (by unfold k9; rfl)
 have hb2 : b = false := hc
 have hr2 : p.firsts[i]? = some r := by rw [hb2] at hr; exact hr
 have hil := (List.getElem?_eq_some_iff.1 hr2).1
 refine yR ?_
 refine yF rfl rfl rfl rfl ?_
 refine yL rfl rfl rfl ?_
 refine yM rfl rfl ?_
 refine aa rfl (br rfl rfl rfl rfl (bq (by assumption)) (Enc.len _)) ?_
 refine yF rfl rfl rfl rfl ?_
 refine yL rfl rfl rfl ?_
 refine yA rfl rfl ?_
 refine yN ?_
 dsimp only [St.put]
 refine K13 _ ?_
 refine yS fun _ K17 => ?_
 refine yR ?_
 refine yM rfl rfl ?_
 refine aa rfl (si rfl rfl rfl (by omega)) ?_
 refine yM rfl rfl ?_
 refine aa rfl (f4 rfl rfl rfl (by omega)) ?_
 refine aa rfl (sg rfl rfl rfl (by omega) (by omega)) ?_
 refine yA rfl rfl ?_
 refine yN ?_
 dsimp only [St.put]
 rw [show (100 * ((cr p.pages (dh b (i : Int)) : Nat) : Int)) / (100 - r.miss) = ju p b i by unfold ju; rw [hmr]]
 have hbd := wc h b i
 refine K17 _ ?_
 refine yS fun _ K18 => ?_
 refine yR ?_
 refine yM rfl rfl ?_
 refine yM rfl rfl ?_
 refine yM rfl rfl ?_
 refine aa rfl (f4 rfl rfl rfl (by omega)) ?_
 refine yA rfl rfl ?_
 refine yA rfl rfl ?_
 refine yN ?_
 dsimp only [St.put]
 refine K18 _ ?_
 refine ax ?_
 refine js rfl (by constructor) (by constructor) zN zS ?_ ?_
 ·rfl
 exact vi (by unfold k9; rfl)
end Go.Proofs.YtbbdginipiljdaaGreatDoor
namespace Go.Proofs.YtbbdginipiljdaaGreatDoor
set_option maxRecDepth 10000
open Go Go.RowKit Go.AB
open Go.AB.Enc (cells)
open Go.PB (ba ai PlaceD bh bk bj bw ar ah cw bv dc dg)
theorem uhv (p : ah) : Pure Tryz.prog 157 [val p] (lst p.firsts) := by
 refine c4 Tryz.func157 rfl (fun m => (b9 _ _)) fun G nx => ?_
 simp only [Tryz.ntmps157, List.length_cons, List.length_nil, Nat.reduceAdd, Nat.reduceSub]
 refine bx fun hlt => ?_
 dsimp only at hlt
 refine yS fun _ K1 => ?_
 refine yR ?_
 try dsimp only [St.put]
 refine yB rfl rfl rfl ?_
 refine yA rfl rfl ?_
 refine yN ?_
 dsimp only [St.put]
 refine K1 _ ?_
 refine yS fun _ K2 => ?_
 refine yR ?_
 refine yF rfl rfl rfl rfl ?_
 refine yL rfl rfl rfl ?_
 refine yA rfl rfl ?_
 refine yN ?_
 dsimp only [St.put]
 refine K2 _ ?_
 refine ax ?_
 refine bg rfl (by constructor) zN zS ?_
 rfl
theorem uhu (x : ar) : Pure Tryz.prog 158 [val x] (.v (.int .i64 x.fst)) := by
 refine c4 Tryz.func158 rfl (fun m => .v) fun G nx => ?_
 simp only [Tryz.ntmps158, List.length_cons, List.length_nil, Nat.reduceAdd, Nat.reduceSub]
 refine bx fun hlt => ?_
 dsimp only at hlt
 refine yS fun _ K1 => ?_
 refine yR ?_
 try dsimp only [St.put]
 refine yB rfl rfl rfl ?_
 refine yA rfl rfl ?_
 refine yN ?_
 dsimp only [St.put]
 refine K1 _ ?_
 refine yS fun _ K2 => ?_
 refine yR ?_
 refine yF rfl rfl rfl rfl ?_
 refine yL rfl rfl rfl ?_
 refine yA rfl rfl ?_
 refine yN ?_
 dsimp only [St.put]
 refine K2 _ ?_
 refine ax ?_
 refine bg rfl (by constructor) zN zS ?_
 rfl
theorem uht (x : ar) : Pure Tryz.prog 159 [val x] (lst x.found) := by
 refine c4 Tryz.func159 rfl (fun m => (b9 _ _)) fun G nx => ?_
 simp only [Tryz.ntmps159, List.length_cons, List.length_nil, Nat.reduceAdd, Nat.reduceSub]
 refine bx fun hlt => ?_
 dsimp only at hlt
 refine yS fun _ K1 => ?_
 refine yR ?_
 try dsimp only [St.put]
 refine yB rfl rfl rfl ?_
 refine yA rfl rfl ?_
 refine yN ?_
 dsimp only [St.put]
 refine K1 _ ?_
 refine yS fun _ K2 => ?_
 refine yR ?_
 refine yF rfl rfl rfl rfl ?_
 refine yL rfl rfl rfl ?_
 refine yA rfl rfl ?_
 refine yN ?_
 dsimp only [St.put]
 refine K2 _ ?_
 refine ax ?_
 refine bg rfl (by constructor) zN zS ?_
 rfl
theorem uhs (p : ah) : Pure Tryz.prog 160 [val p] (lst p.seconds) := by
 refine c4 Tryz.func160 rfl (fun m => (b9 _ _)) fun G nx => ?_
 simp only [Tryz.ntmps160, List.length_cons, List.length_nil, Nat.reduceAdd, Nat.reduceSub]
 refine bx fun hlt => ?_
 dsimp only at hlt
 refine yS fun _ K1 => ?_
 refine yR ?_
 try dsimp only [St.put]
 refine yB rfl rfl rfl ?_
 refine yA rfl rfl ?_
 refine yN ?_
 dsimp only [St.put]
 refine K1 _ ?_
 refine yS fun _ K2 => ?_
 refine yR ?_
 refine yF rfl rfl rfl rfl ?_
 refine yL rfl rfl rfl ?_
 refine yA rfl rfl ?_
 refine yN ?_
 dsimp only [St.put]
 refine K2 _ ?_
 refine ax ?_
 refine bg rfl (by constructor) zN zS ?_
 rfl
theorem uhr (x : ar) : Pure Tryz.prog 161 [val x] (.v (.int .i64 x.snd)) := by
 refine c4 Tryz.func161 rfl (fun m => .v) fun G nx => ?_
 simp only [Tryz.ntmps161, List.length_cons, List.length_nil, Nat.reduceAdd, Nat.reduceSub]
 refine bx fun hlt => ?_
 dsimp only at hlt
 refine yS fun _ K1 => ?_
 refine yR ?_
 try dsimp only [St.put]
 refine yB rfl rfl rfl ?_
 refine yA rfl rfl ?_
 refine yN ?_
 dsimp only [St.put]
 refine K1 _ ?_
 refine yS fun _ K2 => ?_
 refine yR ?_
 refine yF rfl rfl rfl rfl ?_
 refine yL rfl rfl rfl ?_
 refine yA rfl rfl ?_
 refine yN ?_
 dsimp only [St.put]
 refine K2 _ ?_
 refine ax ?_
 refine bg rfl (by constructor) zN zS ?_
 rfl
theorem uhq (x : ar) : Pure Tryz.prog 162 [val x] (lst x.well) := by
 refine c4 Tryz.func162 rfl (fun m => (b9 _ _)) fun G nx => ?_
 simp only [Tryz.ntmps162, List.length_cons, List.length_nil, Nat.reduceAdd, Nat.reduceSub]
 refine bx fun hlt => ?_
 dsimp only at hlt
 refine yS fun _ K1 => ?_
 refine yR ?_
 try dsimp only [St.put]
 refine yB rfl rfl rfl ?_
 refine yA rfl rfl ?_
 refine yN ?_
 dsimp only [St.put]
 refine K1 _ ?_
 refine yS fun _ K2 => ?_
 refine yR ?_
 refine yF rfl rfl rfl rfl ?_
 refine yL rfl rfl rfl ?_
 refine yA rfl rfl ?_
 refine yN ?_
 dsimp only [St.put]
 refine K2 _ ?_
 refine ax ?_
 refine bg rfl (by constructor) zN zS ?_
 rfl
def sRd (b : Bool) : FuncId := bif b then 160 else 157
def sFt (b : Bool) : FuncId := bif b then 161 else 158
def sFd (b : Bool) : FuncId := bif b then 162 else 159
instance (b : Bool) : Fun Tryz.prog (sRd b) := by
 cases b
 ·exact inferInstanceAs (Fun Tryz.prog 157)
 exact inferInstanceAs (Fun Tryz.prog 160)
instance (b : Bool) : Fun Tryz.prog (sFt b) := by
 cases b
 ·exact inferInstanceAs (Fun Tryz.prog 158)
 exact inferInstanceAs (Fun Tryz.prog 161)
instance (b : Bool) : Fun Tryz.prog (sFd b) := by
 cases b
 ·exact inferInstanceAs (Fun Tryz.prog 159)
 exact inferInstanceAs (Fun Tryz.prog 162)
theorem ou (b : Bool) (p : ah) : Pure Tryz.prog (sRd b) [val p] (lst (dv p b)) := by
 cases b
 ·exact uhv p
 exact uhs p
theorem xi (b : Bool) (x : ar) : Pure Tryz.prog (sFt b) [val x] (.v (.int .i64 (ec b x))) := by
 cases b
 ·exact uhu x
 exact uhr x
theorem uay (b : Bool) (x : ar) : Pure Tryz.prog (sFd b) [val x] (lst (dm b x)) := by
 cases b
 ·exact uht x
 exact uhq x
abbrev ni (b : Bool) : List C := [.fn (.func (sRd b)) [], .fn (.func (sFt b)) [], .fn (.func (sFd b)) []]
abbrev sidL : List C := ni false ++ ni true
abbrev e9 : GObj := .fact (.pointer (some ⟨0, 0, none⟩)) (.elem sidL)
abbrev j9 (p : ah) : List C := [lst p.text, lst p.firsts, lst p.seconds, lst p.pages, lst (p.pages.map fun x => (dp p.text x : Int)), lst (p.pages.map (cp p.text)), lst (p.pages.map (c9 p.text))]
theorem uk : ∀ {k : Nat}, k < 2 → (sidL.drop (k * 3)).take 3 = ni (decide (k = 1))
 | 0, _ => rfl
 | 1, _ => rfl
 | k + 2, h => by omega
set_option maxHeartbeats 1000000 in
theorem ubm (p : ah) (b : Bool) (i : Nat) (h : ef p) (hi : i < (dv p b).length) : Pure Tryz.prog 77 [.elem (j9 p), .agg (ni b), .v (.int .i64 (i : Int))] (.tup [.v (.int .i64 (ju p b i)), .v (.int .i64 (k9 p b i))]) := by
 refine c4 Tryz.func77 rfl (fun m => .tup (cm .v (cm .v di))) fun G nx => ?_
 simp only [Tryz.ntmps77, List.length_cons, List.length_nil, Nat.reduceAdd, Nat.reduceSub]
 refine bx fun hlt => ?_
 dsimp only at hlt
 have hown := xy h b (i : Int)
 have hrd := xp h b (i : Int)
 have hal := lg h.text
 have hnp := h.np
 have hmb := yc h b i
 obtain ⟨r, hr⟩ : ∃ r, (dv p b)[i]? = some r := da hi
 have hmr := uck hr
 refine yS fun _ K1 => ?_
 refine yR ?_
 try dsimp only [St.put]
 refine yB rfl rfl rfl ?_
 refine yA rfl rfl ?_
 refine yA rfl rfl ?_
 refine yN ?_
 dsimp only [St.put]
 refine K1 _ ?_
 refine yS fun _ K2 => ?_
 refine yR ?_
 refine yA rfl rfl ?_
 refine yA rfl rfl ?_
 refine yN ?_
 dsimp only [St.put]
 refine K2 _ ?_
 refine yS fun _ K3 => ?_
 refine yS fun _ K4 => ?_
 refine yR ?_
 refine yM rfl rfl ?_
 refine aa rfl (kx rfl rfl) ?_
 refine yF rfl rfl rfl rfl ?_
 refine yF rfl rfl rfl rfl ?_
 refine yL rfl rfl rfl ?_
 refine aa rfl (bi rfl rfl (List.length_map _)) ?_
 refine yM rfl rfl ?_
 refine yN ?_
 dsimp only [St.put]
 refine K4 _ ?_
 refine bf ?_
 refine co 20 ?_
 refine zQ ?_
 refine c7 (G) zX ?_
 dsimp only
 refine c6 (X := Nat) (fun k => k ≤ p.pages.length) (fun k => p.pages.length - k) (fun k => [(8, .v (.int .i64 ((cr (p.pages.take k) (dh b (i : Int)) : Nat) : Int))), (9, .v (.int .i64 ((cr (p.pages.take k) (dx p.text b (i : Int)) : Nat) : Int))), (10, .any), (11, .any), (19, .v (.int .i64 (k : Int)))]) (fun k G' => G') 0 rfl ?_ ?_ (fun _ _ h => h) ?_ ?_ ?_
 ·exact Nat.zero_le _
 ·exact zF
 ·rintro k hI
  exact zL
 ·exact fun _ _ _ _ h => .inl h
 rintro k hI
 dsimp only at hI ⊢
 refine yS fun _ K5 => ?_
 refine yR ?_
 refine aa rfl (cn rfl rfl rfl) ?_
 refine yN ?_
 dsimp only [St.put]
 refine K5 _ ?_
 refine yS fun _ K6 => ?_
 refine aq rfl (fun hc => ?_) (fun hc => ?_)
 ·replace hc := of_decide_eq_true hc
  obtain ⟨x, hx⟩ : ∃ x, p.pages[k]? = some x := da (by omega)
  have hax : (p.pages.map (cp p.text))[k]? = some (cp p.text x) := by rw [List.getElem?_map, hx]; rfl
  have hp := pageB_true.1 (h.page k x hx)
  have hfd : (dm b x).length ≤ 600 := by
   have hfl := lp hp.found
   have hwl := lp hp.well
   cases b
   ·show x.found.length ≤ 600
    omega
   show x.well.length ≤ 600
   omega
  have hgl := qy p.text x
  have ht1 := ue (l := p.pages) (g := dh b (i : Int)) k
  have ht2 := ue (l := p.pages) (g := dx p.text b (i : Int)) k
  refine ay ?_
  refine K6 _ ?_
  refine yS fun _ K7 => ?_
  refine bf ?_
  refine yS fun _ K8 => ?_
  refine yR ?_
  refine yM rfl rfl ?_
  refine aa rfl (br rfl rfl rfl rfl (bq (by assumption)) (Enc.len _)) ?_
  refine yE rfl rfl rfl ?_
  try dsimp only [St.put]
  refine af rfl (ed rfl ?_)
  refine yA rfl rfl ?_
  try dsimp only [St.put]
  refine af rfl (dj rfl rfl rfl zG rfl rfl (by rfl) ?_)
  refine yN ?_
  dsimp only [St.put]
  refine K8 _ ?_
  refine gp (i := 11) rfl zG zC ?_
  dsimp only
  refine yS fun _ K9 => ?_
  refine yR ?_
  refine yF rfl rfl rfl rfl ?_
  refine yL rfl rfl rfl ?_
  refine yE rfl rfl rfl ?_
  try dsimp only [St.put]
  refine af rfl (bd rfl rfl rfl (xi b x) ?_)
  refine yM rfl rfl ?_
  refine aa rfl (fm rfl rfl rfl) ?_
  refine yN ?_
  dsimp only [St.put]
  refine K9 _ ?_
  refine aq rfl (fun hc => ?_) (fun hc => ?_)
  ·have hyes : ec b x = (i : Int) := of_decide_eq_true hc
   refine yS fun _ K10 => ?_
   refine yR ?_
   refine yM rfl rfl ?_
   refine yF rfl rfl rfl rfl ?_
   refine yL rfl rfl rfl ?_
   refine yE rfl rfl rfl ?_
   try dsimp only [St.put]
   refine af rfl (bd rfl rfl rfl (uay b x) ?_)
   refine aa rfl (bi rfl rfl (List.length_map _)) ?_
   refine aa rfl (bu rfl rfl rfl (by omega)) ?_
   refine yA rfl rfl ?_
   refine yN ?_
   dsimp only [St.put]
   refine K10 _ ?_
   refine yR ?_
   refine yM rfl rfl ?_
   refine yM rfl rfl ?_
   refine aa rfl (kx rfl rfl) ?_
   refine yF rfl rfl rfl rfl ?_
   refine yL rfl rfl rfl ?_
   refine yM rfl rfl ?_
   refine aa rfl (br rfl rfl rfl rfl (bq (by assumption)) (Enc.len _)) ?_
   refine yL rfl rfl rfl ?_
   refine aa rfl (bi rfl rfl (List.length_map _)) ?_
   refine aa rfl (bu rfl rfl rfl (by omega)) ?_
   refine yA rfl rfl ?_
   refine yN ?_
   dsimp only [St.put]
   refine K7 _ ?_
   refine yR ?_
   refine aa rfl (bu rfl rfl rfl (by omega)) ?_
   refine yM rfl rfl ?_
   refine yN ?_
   dsimp only [St.put]
   have e1 := ly (g := dh b (i : Int)) hx
   have e2 := ly (g := dx p.text b (i : Int)) hx
   first
   | (have z : ec b x = (i : Int) := hyes
      rw [show ((cr (p.pages.take k) (dh b (i : Int)) : Nat) : Int) + ((dm b x).length : Int) = ((cr (p.pages.take (k + 1)) (dh b (i : Int)) : Nat) : Int) by rw [e1]; unfold dh; rw [decide_eq_true z, cond_true]; rfl, show ((cr (p.pages.take k) (dx p.text b (i : Int)) : Nat) : Int) + ((cp p.text x).length : Int) = ((cr (p.pages.take (k + 1)) (dx p.text b (i : Int)) : Nat) : Int) by rw [e2]; unfold dx; rw [decide_eq_true z, cond_true]; rfl]
      exact ⟨k + 1, by omega, by omega, ⟨⟨rfl, rfl⟩, zF, zB, zN, zX⟩⟩)
   | (have z : ¬ ec b x = (i : Int) := hno
      rw [show cr (p.pages.take k) (dh b (i : Int)) = cr (p.pages.take (k + 1)) (dh b (i : Int)) by rw [e1]; unfold dh; rw [decide_eq_false z]; rfl, show cr (p.pages.take k) (dx p.text b (i : Int)) = cr (p.pages.take (k + 1)) (dx p.text b (i : Int)) by rw [e2]; unfold dx; rw [decide_eq_false z]; rfl]
      exact ⟨k + 1, by omega, by omega, ⟨⟨rfl, rfl⟩, zF, zB, zN, zX⟩⟩)
  have hno : ¬ ec b x = (i : Int) := of_decide_eq_false hc
  refine ay ?_
  refine K7 _ ?_
  refine yR ?_
  refine aa rfl (bu rfl rfl rfl (by omega)) ?_
  refine yM rfl rfl ?_
  refine yN ?_
  dsimp only [St.put]
  have e1 := ly (g := dh b (i : Int)) hx
  have e2 := ly (g := dx p.text b (i : Int)) hx
  first
  | (have z : ec b x = (i : Int) := hyes
     rw [show ((cr (p.pages.take k) (dh b (i : Int)) : Nat) : Int) + ((dm b x).length : Int) = ((cr (p.pages.take (k + 1)) (dh b (i : Int)) : Nat) : Int) by rw [e1]; unfold dh; rw [decide_eq_true z, cond_true]; rfl, show ((cr (p.pages.take k) (dx p.text b (i : Int)) : Nat) : Int) + ((cp p.text x).length : Int) = ((cr (p.pages.take (k + 1)) (dx p.text b (i : Int)) : Nat) : Int) by rw [e2]; unfold dx; rw [decide_eq_true z, cond_true]; rfl]
     exact ⟨k + 1, by omega, by omega, ⟨⟨rfl, rfl⟩, zF, zB, zN, zX⟩⟩)
  | (have z : ¬ ec b x = (i : Int) := hno
     rw [show cr (p.pages.take k) (dh b (i : Int)) = cr (p.pages.take (k + 1)) (dh b (i : Int)) by rw [e1]; unfold dh; rw [decide_eq_false z]; rfl, show cr (p.pages.take k) (dx p.text b (i : Int)) = cr (p.pages.take (k + 1)) (dx p.text b (i : Int)) by rw [e2]; unfold dx; rw [decide_eq_false z]; rfl]
     exact ⟨k + 1, by omega, by omega, ⟨⟨rfl, rfl⟩, zF, zB, zN, zX⟩⟩)
 replace hc := of_decide_eq_false hc
 obtain rfl : k = p.pages.length := by omega
 rw [gd (Nat.le_refl p.pages.length)]
 refine cz ?_
 refine K3 _ ?_
 refine yS fun _ K11 => ?_
 refine fu [(0, none), (1, none), (2, none), (3, none), (4, none), (5, none), (6, none), (7, none), (9, none), (8, none), (10, none), (11, none), (12, none), (13, none), (14, none), (15, none)] (fun i => [8, 12].contains i) (fun i => [8, 12].contains i) (fun i => [0, 1, 2, 4, 5, 6, 9, 10, 11, 13, 14, 15].contains i) [] (by kernel_rfl) (by kernel_rfl) ?_
 refine xM rfl rfl rfl rfl rfl ?_
 refine ae rfl rfl rfl rfl (si rfl rfl rfl (by omega)) ?_
 refine ae rfl rfl rfl rfl (cv rfl rfl rfl) ?_
 try dsimp only [St.put]
 refine bc rfl rfl rfl rfl (cg rfl rfl) ?_
 refine xM rfl rfl rfl rfl rfl ?_
 refine ae rfl rfl rfl rfl (kx rfl rfl) ?_
 refine ae rfl rfl rfl rfl (cv rfl rfl rfl) ?_
 try dsimp only [St.put]
 refine bc rfl rfl rfl rfl (c := val p) (jc (cs := j9 p) rfl rfl (show 4 ≤ 7 by decide)) ?_
 refine xM rfl rfl rfl rfl rfl ?_
 refine g7 ?_
 try dsimp only [St.put]
 refine g4 rfl rfl rfl rfl (bd rfl rfl rfl (ou b p) ?_)
 try dsimp only [St.put]
 refine dq rfl rfl rfl rfl (br rfl rfl rfl rfl (bq (by assumption)) (Enc.len _)) ?_
 refine dq rfl rfl rfl rfl (cv rfl rfl rfl) ?_
 try dsimp only [St.put]
 refine g4 rfl rfl rfl rfl (SStep.e' (D := fun _ => True) (cg rfl rfl) ?_)
 refine dq rfl rfl rfl rfl (f4 rfl rfl rfl (by omega)) ?_
 refine dq rfl rfl rfl rfl (sg rfl rfl rfl (by omega) (by omega)) ?_
 refine dq rfl rfl rfl rfl (fa rfl (by constructor)) ?_
 refine gw ?_
 dsimp only [St.put]
 rw [show (100 * ((cr p.pages (dh b (i : Int)) : Nat) : Int)) / (100 - r.miss) = ju p b i by unfold ju; rw [hmr]]
 have hbd := wc h b i
 refine K11 _ ?_
 refine yS fun _ K12 => ?_
 refine yR ?_
 refine yM rfl rfl ?_
 refine yM rfl rfl ?_
 refine yM rfl rfl ?_
 refine aa rfl (f4 rfl rfl rfl (by omega)) ?_
 refine yA rfl rfl ?_
 refine yA rfl rfl ?_
 refine yN ?_
 dsimp only [St.put]
 refine K12 _ ?_
 refine ax ?_
 refine js rfl (by constructor) (by constructor) zN zS ?_ ?_
 ·rfl
 exact vi (by unfold k9; rfl)
end Go.Proofs.YtbbdginipiljdaaGreatDoor
namespace Go.AB
open Go Go.RowKit
open Go.AB.Enc (cells)
open Go.PB (ba ai PlaceD bh bk bj bw ar ah cw bv dc dg)
theorem uir {p : ah} (h : ef p) {j : Nat} {x : ar} (hx : p.pages[j]? = some x) {k : Nat} (hk : k < (du p x).length) : ∃ zn : Nat, (du p x)[k]? = some (zn : Int) ∧ zn ≤ 6 := by
 have hp := pageB_true.1 (h.page j x hx)
 have h1 := hp.fst
 have h2 := hp.snd
 have h3 := h.nf
 have h4 := h.ns
 obtain ⟨z, hz⟩ : ∃ z, (du p x)[k]? = some z := ⟨_, List.getElem?_eq_getElem hk⟩
 have hm := List.mem_of_getElem? hz
 have hb : 0 ≤ z ∧ z ≤ 6 := by
  unfold du at hm
  rw [List.mem_append] at hm
  rcases hm with hm | hm
  ·by_cases q : 0 ≤ x.fst
   ·rw [decide_eq_true q, cond_true, List.mem_singleton] at hm; omega
   rw [decide_eq_false q] at hm; cases hm
  by_cases q : 0 ≤ x.snd
  ·rw [decide_eq_true q, cond_true, List.mem_singleton] at hm; omega
  rw [decide_eq_false q] at hm; cases hm
 exact ⟨z.toNat, by rw [hz]; congr 1; omega, by omega⟩
theorem xo (p : ah) (x : ar) : (du p x).length ≤ 2 := by
 unfold du
 rw [List.length_append]
 cases decide (0 ≤ x.fst) <;> cases decide (0 ≤ x.snd) <;> simp
end Go.AB
namespace Go.Proofs.YtbbdginipiljdaaGreatDoor
set_option maxRecDepth 10000
open Go.RowKit Go.AB
open Go.AB.Enc (cells)
open Go.PB (ba ai PlaceD bh bk bj bw ar ah cw bv dc dg)
end Go.Proofs.YtbbdginipiljdaaGreatDoor
namespace Go.Proofs.YtbbdginipiljdaaGreatDoor
set_option maxRecDepth 10000
open Go.RowKit Go.AB
open Go.AB.Enc (cells)
open Go.PB (ba ai PlaceD bh bk bj bw ar ah cw bv dc dg)
end Go.Proofs.YtbbdginipiljdaaGreatDoor
namespace Go.AB
open Go Go.RowKit
open Go.AB.Enc (cells)
open Go.PB (ba ai PlaceD bh bk bj)
theorem lt3 {a b c a' b' c' : Int} : fe [a, b, c] [a', b', c'] < 0 ↔ a < a' ∨ a = a' ∧ (b < b' ∨ b = b' ∧ c < c') := by
 rw [m8 (a := [a, b, c]) (b := [a', b', c']) rfl]; simp [ltW]
end Go.AB
namespace Go.Proofs.YtbbdginipiljdaaGreatDoor
set_option maxRecDepth 10000
open Go.RowKit Go.AB
open Go.AB.Enc (cells)
open Go.PB (ba ai PlaceD bh bk bj)
theorem ufp (a b : PlaceD) : Pure Tryz.prog 121 [val a, val b] (.v (.bool (decide (fe (c8 a) (c8 b) < 0)))) := by
 refine c4 Tryz.func121 rfl (fun m => .v) fun G nx => ?_
 simp only [Tryz.ntmps121, List.length_cons, List.length_nil, Nat.reduceAdd, Nat.reduceSub]
 refine bx fun hlt => ?_
 dsimp only at hlt
 refine yS fun _ K1 => ?_
 refine yR ?_
 try dsimp only [St.put]
 refine yB rfl rfl rfl ?_
 try dsimp only [St.put]
 refine yB rfl rfl rfl ?_
 refine yA rfl rfl ?_
 refine yN ?_
 dsimp only [St.put]
 refine K1 _ ?_
 refine yS fun _ K2 => ?_
 refine yS fun _ K3 => ?_
 refine yR ?_
 refine yF rfl rfl rfl rfl ?_
 refine yL rfl rfl rfl ?_
 refine yF rfl rfl rfl rfl ?_
 refine yL rfl rfl rfl ?_
 refine aa rfl (fk rfl rfl rfl) ?_
 refine yN ?_
 dsimp only [St.put]
 refine K3 _ ?_
 refine aq rfl (fun hc => ?_) (fun hc => ?_)
 ·have h1 : a.ch ≠ b.ch := jq hc
  refine yS fun _ K4 => ?_
  refine yR ?_
  refine yF rfl rfl rfl rfl ?_
  refine yL rfl rfl rfl ?_
  refine yF rfl rfl rfl rfl ?_
  refine yL rfl rfl rfl ?_
  refine aa rfl (cn rfl rfl rfl) ?_
  refine yA rfl rfl ?_
  refine yN ?_
  dsimp only [St.put]
  refine K4 _ ?_
  refine ax ?_
  refine bg rfl (by constructor) zN zS ?_
  exact vb (by rw [decide_eq_decide, c8, c8, lt3]; omega)
 have h1 : a.ch = b.ch := ii hc
 refine ay ?_
 refine K2 _ ?_
 refine yS fun _ K5 => ?_
 refine yS fun _ K6 => ?_
 refine yR ?_
 refine yF rfl rfl rfl rfl ?_
 refine yL rfl rfl rfl ?_
 refine yF rfl rfl rfl rfl ?_
 refine yL rfl rfl rfl ?_
 refine aa rfl (fk rfl rfl rfl) ?_
 refine yN ?_
 dsimp only [St.put]
 refine K6 _ ?_
 refine aq rfl (fun hc => ?_) (fun hc => ?_)
 ·have h2 : a.ln ≠ b.ln := jq hc
  refine yS fun _ K7 => ?_
  refine yR ?_
  refine yF rfl rfl rfl rfl ?_
  refine yL rfl rfl rfl ?_
  refine yF rfl rfl rfl rfl ?_
  refine yL rfl rfl rfl ?_
  refine aa rfl (cn rfl rfl rfl) ?_
  refine yA rfl rfl ?_
  refine yN ?_
  dsimp only [St.put]
  refine K7 _ ?_
  refine ax ?_
  refine bg rfl (by constructor) zN zS ?_
  exact vb (by rw [decide_eq_decide, c8, c8, lt3]; omega)
 have h2 : a.ln = b.ln := ii hc
 refine ay ?_
 refine K5 _ ?_
 refine yS fun _ K8 => ?_
 refine yR ?_
 refine yF rfl rfl rfl rfl ?_
 refine yL rfl rfl rfl ?_
 refine yF rfl rfl rfl rfl ?_
 refine yL rfl rfl rfl ?_
 refine aa rfl (cn rfl rfl rfl) ?_
 refine yA rfl rfl ?_
 refine yN ?_
 dsimp only [St.put]
 refine K8 _ ?_
 refine ax ?_
 refine bg rfl (by constructor) zN zS ?_
 exact vb (by rw [decide_eq_decide, c8, c8, lt3]; omega)
end Go.Proofs.YtbbdginipiljdaaGreatDoor
namespace Go.Proofs.YtbbdginipiljdaaGreatDoor
set_option maxRecDepth 10000
open Go.RowKit Go.AB
open Go.AB.Enc (cells)
open Go.PB (ba ai PlaceD bh bk bj bw ar ah cw bv dc dg)
set_option maxHeartbeats 1000000 in
theorem ubd (t : ai) (x : ar) (r : Int) (l : List PlaceD) (ht : dr t = true) : Pure Tryz.prog 108 [ig t, val x, .v (.int .i64 r), lst l] (.v (.bool (g9 t x r l))) := by
 refine c4 Tryz.func108 rfl (fun m => .v) fun G nx => ?_
 simp only [Tryz.ntmps108, List.length_cons, List.length_nil, Nat.reduceAdd, Nat.reduceSub]
 refine bx fun hlt => ?_
 dsimp only at hlt
 refine kh 3 (fun hfl => ?_)
 have hl0 := (fit_lst.1 hfl).1
 refine yS fun _ K1 => ?_
 refine yR ?_
 try dsimp only [St.put]
 refine yB rfl rfl rfl ?_
 try dsimp only [St.put]
 refine yB rfl rfl rfl ?_
 refine yA rfl rfl ?_
 refine yN ?_
 dsimp only [St.put]
 refine K1 _ ?_
 refine yS fun _ K2 => ?_
 refine yS fun _ K3 => ?_
 refine yR ?_
 refine yM rfl rfl ?_
 refine aa rfl (cn rfl rfl rfl) ?_
 refine eo (fun hs => ?_) (fun hs => ?_)
 ·have s1 : r < 0 := of_decide_eq_true hs
  refine yM rfl rfl ?_
  refine yM rfl rfl ?_
  refine aa rfl (bi rfl rfl (List.length_map _)) ?_
  refine aa rfl (gz rfl rfl rfl) ?_
  refine aa rfl (cb rfl rfl (by constructor)) ?_
  refine yN ?_
  dsimp only [St.put]
  refine K3 _ ?_
  refine aq rfl (fun hc => ?_) (fun hc => ?_)
  ·have s2 : 0 < l.length := by
    have := of_decide_eq_true hc
    omega
   refine yS fun _ K4 => ?_
   refine yR ?_
   refine yA rfl rfl ?_
   refine yN ?_
   dsimp only [St.put]
   refine K4 _ ?_
   refine ax ?_
   refine bg rfl (by constructor) zN zS ?_
   exact vb (by
    have e1 : ¬ 0 ≤ r := by omega
    have e2 : l ≠ [] := fun e => by rw [e] at s2; exact absurd s2 (by simp)
    simp [g9, e1, e2])
  have s3 : (decide (0 ≤ r) || decide (l = [])) = true := by
   first
   | (rw [decide_eq_true (show 0 ≤ r by omega)]; rfl)
   | (have := of_decide_eq_false hc
      have : l = [] := List.eq_nil_of_length_eq_zero (by omega)
      simp [this])
  refine ay ?_
  refine K2 _ ?_
  refine yS fun _ K5 => ?_
  refine yS fun _ K6 => ?_
  refine yR ?_
  refine yA rfl rfl ?_
  refine yN ?_
  dsimp only [St.put]
  refine K6 _ ?_
  refine bf ?_
  refine co 10 ?_
  refine zQ ?_
  refine c7 (G) zX ?_
  dsimp only
  refine c6 (X := Nat) (fun i => i ≤ l.length ∧ dz t x l i = true) (fun i => l.length - i) (fun i => [(9, .v (.int .i64 (i : Int)))]) (fun i G' => G') 0 rfl ?_ ?_ (fun _ _ h => h) ?_ ?_ ?_
  ·exact ⟨Nat.zero_le _, rfl⟩
  ·exact zF
  ·rintro i hI
   exact zL
  ·exact fun _ _ _ _ h => .inl h
  rintro i hI
  dsimp only at hI ⊢
  refine yS fun _ K7 => ?_
  refine yS fun _ K8 => ?_
  refine yR ?_
  refine yM rfl rfl ?_
  refine yM rfl rfl ?_
  refine aa rfl (bi rfl rfl (List.length_map _)) ?_
  refine aa rfl (cn rfl rfl rfl) ?_
  refine yN ?_
  dsimp only [St.put]
  refine K8 _ ?_
  refine aq rfl (fun hc => ?_) (fun hc => ?_)
  ·replace hc := of_decide_eq_true hc
   obtain ⟨q, hq⟩ : ∃ q, l[i]? = some q := da (by omega)
   refine ay ?_
   refine K7 _ ?_
   refine yS fun _ K9 => ?_
   refine bf ?_
   refine co 10 ?_
   refine zQ ?_
   refine j4 (X := Bool) (fun d => jj t x l i = !d) (fun d => [(60, .v (.bool d))]) (fun d G' => G') rfl ?_ (fun _ _ _ _ h => .inl h) ?_ ?_
   ·rintro d hI
    exact zL
   ·refine rb [(0, none), (1, none), (2, none), (3, none), (4, none)] (fun _ => false) (fun i => [1, 2, 3].contains i) 33 (rl [5, 33]) (by kernel_rfl) (by kernel_rfl) ?_
    try dsimp only [St.put]
    refine bc rfl rfl rfl rfl (eh rfl rfl rfl) ?_
    refine xM rfl rfl rfl rfl rfl ?_
    refine xM rfl rfl rfl rfl rfl ?_
    try dsimp only [St.put]
    refine ae rfl rfl rfl rfl (br rfl rfl rfl rfl (bq (by assumption)) (Enc.len _)) ?_
    try dsimp only [St.put]
    refine bc rfl rfl rfl rfl (eh rfl rfl (Enc.len _)) ?_
    refine az ?_
    refine eb [5] (by kernel_rfl) (by simp) ?_
    refine d9 ?_ ?_
    ·try dsimp only [St.put]
     refine iz rfl rfl rfl (bd rfl rfl rfl (ufl t q ht) ?_)
     refine ep [(6, none), (7, none), (8, none), (9, none), (10, none), (11, none), (12, none), (14, none), (15, none), (16, none), (17, none)] (fun i => [6, 7, 9, 10, 11, 14, 16].contains i) 21 (rl [13, 1, 4, 20]) (by kernel_rfl) ?_
     refine ae rfl rfl rfl rfl (dw rfl rfl) ?_
     refine jf (fun hs => ?_) (fun hs => ?_)
     ·have s4 := hs
      refine xM rfl rfl rfl rfl rfl ?_
      refine aj rfl rfl rfl ?_
      refine aj rfl rfl rfl ?_
      refine aj rfl rfl rfl ?_
      refine aj rfl rfl rfl ?_
      refine aj rfl rfl rfl ?_
      refine aj rfl rfl rfl ?_
      refine aj rfl rfl rfl ?_
      refine aj rfl rfl rfl ?_
      refine aj rfl rfl rfl ?_
      refine az ?_
      refine eb [13] (by kernel_rfl) (by simp) ?_
      refine d9 ?_ ?_
      ·refine f9 rfl rfl rfl ?_
       refine eb [18] (by kernel_rfl) (by simp) ?_
       refine d9 ?_ ?_
       ·refine f9 rfl rfl rfl ?_
        refine ep [(19, none), (20, none), (21, none), (22, none), (23, none), (24, none), (25, none), (26, none), (27, none), (28, none), (29, none), (30, none), (31, none), (32, none), (33, none)] (fun i => [19, 20, 21, 22, 23, 24, 25, 26, 27, 28, 30, 31, 32].contains i) 4 (rl [34, 4]) (by kernel_rfl) ?_
        refine aj rfl rfl rfl ?_
        refine ae rfl rfl rfl rfl (cb rfl rfl (by constructor)) ?_
        refine xM rfl rfl rfl rfl rfl ?_
        refine aj rfl rfl rfl ?_
        refine aj rfl rfl rfl ?_
        refine aj rfl rfl rfl ?_
        refine aj rfl rfl rfl ?_
        refine aj rfl rfl rfl ?_
        refine aj rfl rfl rfl ?_
        refine aj rfl rfl rfl ?_
        refine aj rfl rfl rfl ?_
        refine aj rfl rfl rfl ?_
        refine aj rfl rfl rfl ?_
        refine aj rfl rfl rfl ?_
        refine aj rfl rfl rfl ?_
        refine az ?_
        refine eb [34] (by kernel_rfl) (by simp) ?_
        refine d9 ?_ ?_
        ·refine f9 rfl rfl rfl ?_
         refine ep [(35, none), (36, none), (37, none)] (fun i => [35, 36, 37].contains i) 0 (rl [38]) (by kernel_rfl) ?_
         refine aj rfl rfl rfl ?_
         refine aj rfl rfl rfl ?_
         refine ae rfl rfl rfl rfl (cb rfl rfl (by constructor)) ?_
         refine az ?_
         dsimp only [St.put]
         refine iw (by kernel_rfl) ?_
         refine ⟨_, ?_, ⟨⟨rfl, rfl⟩, zF, zB, zN, zX⟩⟩
         simp_all [jj, fl, mg]
         try (intro h0; omega)
        exact d8
       exact d8
      exact d8
     have hqp : fp t q = true := by simpa using hs
     refine xM rfl rfl rfl rfl rfl ?_
     try dsimp only [St.put]
     refine bc rfl rfl rfl rfl (eh rfl rfl rfl) ?_
     refine xM rfl rfl rfl rfl rfl ?_
     refine xM rfl rfl rfl rfl rfl ?_
     try dsimp only [St.put]
     refine ae rfl rfl rfl rfl (br rfl rfl rfl rfl (bq (by assumption)) (Enc.len _)) ?_
     try dsimp only [St.put]
     refine bc rfl rfl rfl rfl (eh rfl rfl (Enc.len _)) ?_
     refine ae rfl rfl rfl rfl (cv rfl rfl rfl) ?_
     try dsimp only [St.put]
     refine bc rfl rfl rfl rfl (cg rfl rfl) ?_
     refine ae rfl rfl rfl rfl (cv rfl rfl rfl) ?_
     try dsimp only [St.put]
     refine bc rfl rfl rfl rfl (cg rfl rfl) ?_
     refine az ?_
     refine eb [13] (by kernel_rfl) (by simp) ?_
     refine d9 ?_ ?_
     ·try dsimp only [St.put]
      refine iz rfl rfl rfl (bd rfl rfl rfl (xq t q ht hqp) ?_)
      refine eb [18] (by kernel_rfl) (by simp) ?_
      refine d9 ?_ ?_
      ·try dsimp only [St.put]
       refine iz rfl rfl rfl (bd rfl rfl rfl (ox _ _ _) ?_)
       refine ep [(19, none), (20, none), (21, none), (22, none), (23, none), (24, none), (25, none), (26, none), (27, none), (28, none), (29, none), (30, none), (31, none), (32, none), (33, none)] (fun i => [19, 20, 21, 22, 23, 24, 25, 26, 27, 28, 30, 31, 32].contains i) 4 (rl [34, 4]) (by kernel_rfl) ?_
       refine ae rfl rfl rfl rfl (dw rfl rfl) ?_
       refine jf (fun hs => ?_) (fun hs => ?_)
       ·have s5 := hs
        refine ae rfl rfl rfl rfl (ct rfl rfl (by constructor)) ?_
        refine xM rfl rfl rfl rfl rfl ?_
        refine aj rfl rfl rfl ?_
        refine aj rfl rfl rfl ?_
        refine aj rfl rfl rfl ?_
        refine aj rfl rfl rfl ?_
        refine aj rfl rfl rfl ?_
        refine aj rfl rfl rfl ?_
        refine aj rfl rfl rfl ?_
        refine aj rfl rfl rfl ?_
        refine aj rfl rfl rfl ?_
        refine aj rfl rfl rfl ?_
        refine aj rfl rfl rfl ?_
        refine aj rfl rfl rfl ?_
        refine az ?_
        refine eb [34] (by kernel_rfl) (by simp) ?_
        refine d9 ?_ ?_
        ·refine f9 rfl rfl rfl ?_
         refine ep [(35, none), (36, none), (37, none)] (fun i => [35, 36, 37].contains i) 0 (rl [38]) (by kernel_rfl) ?_
         refine aj rfl rfl rfl ?_
         refine aj rfl rfl rfl ?_
         refine ae rfl rfl rfl rfl (cb rfl rfl (by constructor)) ?_
         refine az ?_
         dsimp only [St.put]
         refine iw (by kernel_rfl) ?_
         refine ⟨_, ?_, ⟨⟨rfl, rfl⟩, zF, zB, zN, zX⟩⟩
         simp_all [jj, fl, mg]
         try (intro h0; omega)
        exact d8
       have s5 := hs
       refine ae rfl rfl rfl rfl (ct rfl rfl (by constructor)) ?_
       refine xM rfl rfl rfl rfl rfl ?_
       refine xM rfl rfl rfl rfl rfl ?_
       refine ae rfl rfl rfl rfl (gz rfl rfl rfl) ?_
       refine jf (fun hs => ?_) (fun hs => ?_)
       ·have s6 : 0 < i := by
         have := of_decide_eq_true hs
         omega
        obtain ⟨q0, hq0⟩ : ∃ q0, l[i - 1]? = some q0 := da (by omega)
        refine xM rfl rfl rfl rfl rfl ?_
        refine xM rfl rfl rfl rfl rfl ?_
        refine xM rfl rfl rfl rfl rfl ?_
        refine ae rfl rfl rfl rfl (f4 rfl rfl rfl (by omega)) ?_
        try dsimp only [St.put]
        refine ae rfl rfl rfl rfl (br (k := i - 1) rfl rfl rfl (by omega) (bq hq0) (Enc.len _)) ?_
        try dsimp only [St.put]
        refine bc rfl rfl rfl rfl (eh rfl rfl (Enc.len _)) ?_
        refine xM rfl rfl rfl rfl rfl ?_
        refine xM rfl rfl rfl rfl rfl ?_
        try dsimp only [St.put]
        refine ae rfl rfl rfl rfl (br rfl rfl rfl rfl (bq (by assumption)) (Enc.len _)) ?_
        try dsimp only [St.put]
        refine bc rfl rfl rfl rfl (eh rfl rfl (Enc.len _)) ?_
        refine az ?_
        refine eb [34] (by kernel_rfl) (by simp) ?_
        refine d9 ?_ ?_
        ·try dsimp only [St.put]
         refine iz rfl rfl rfl (bd rfl rfl rfl (ufp q0 q) ?_)
         refine ep [(35, none), (36, none), (37, none)] (fun i => [35, 36, 37].contains i) 0 (rl [38]) (by kernel_rfl) ?_
         refine ae rfl rfl rfl rfl (dw rfl rfl) ?_
         refine ae rfl rfl rfl rfl (cb rfl rfl (by constructor)) ?_
         refine ae rfl rfl rfl rfl (ct rfl rfl (by constructor)) ?_
         refine az ?_
         dsimp only [St.put]
         refine iw (by kernel_rfl) ?_
         refine ⟨_, ?_, ⟨⟨rfl, rfl⟩, zF, zB, zN, zX⟩⟩
         simp_all [jj, fl, mg]
         try (intro h0; omega)
        exact d8
       have s6 : i = 0 := by
        have := of_decide_eq_false hs
        omega
       refine xM rfl rfl rfl rfl rfl ?_
       refine aj rfl rfl rfl ?_
       refine aj rfl rfl rfl ?_
       refine aj rfl rfl rfl ?_
       refine aj rfl rfl rfl ?_
       refine aj rfl rfl rfl ?_
       refine aj rfl rfl rfl ?_
       refine aj rfl rfl rfl ?_
       refine aj rfl rfl rfl ?_
       refine aj rfl rfl rfl ?_
       refine az ?_
       refine eb [34] (by kernel_rfl) (by simp) ?_
       refine d9 ?_ ?_
       ·refine f9 rfl rfl rfl ?_
        refine ep [(35, none), (36, none), (37, none)] (fun i => [35, 36, 37].contains i) 0 (rl [38]) (by kernel_rfl) ?_
        refine aj rfl rfl rfl ?_
        refine ae rfl rfl rfl rfl (ct rfl rfl (by constructor)) ?_
        refine ae rfl rfl rfl rfl (ct rfl rfl (by constructor)) ?_
        refine az ?_
        dsimp only [St.put]
        refine iw (by kernel_rfl) ?_
        refine ⟨_, ?_, ⟨⟨rfl, rfl⟩, zF, zB, zN, zX⟩⟩
        simp_all [jj, fl, mg]
        try (intro h0; omega)
       exact d8
      exact d8
     exact d8
    exact d8
   rintro d hst
   dsimp only at hst ⊢
   refine aq rfl (fun hc => ?_) (fun hc => ?_)
   ·skip
    refine yS fun _ K11 => ?_
    refine yR ?_
    refine yA rfl rfl ?_
    refine yN ?_
    dsimp only [St.put]
    refine K11 _ ?_
    refine ax ?_
    refine bg rfl (by constructor) zN zS ?_
    exact vb (by
     have e : jj t x l i = false := by rw [hst, hc]; rfl
     have : dz t x l l.length = false := by
      refine List.all_eq_false.2 ⟨i, List.mem_range.2 (by omega), by rw [e]; simp⟩
     simp [g9, this])
   skip
   refine ay ?_
   refine K9 _ ?_
   refine yR ?_
   refine yM rfl rfl ?_
   refine aa rfl (bu rfl rfl rfl (by omega)) ?_
   refine yA rfl rfl ?_
   refine yN ?_
   dsimp only [St.put]
   exact ⟨i + 1, by omega, ⟨by omega, by rw [g3, hI.2, hst, hc]; rfl⟩, ⟨⟨rfl, rfl⟩, zF, zB, zN, zX⟩⟩
  replace hc := of_decide_eq_false hc
  obtain rfl : i = l.length := by omega
  refine cz ?_
  refine K5 _ ?_
  refine yS fun _ K12 => ?_
  refine yR ?_
  refine yA rfl rfl ?_
  refine yN ?_
  dsimp only [St.put]
  refine K12 _ ?_
  refine ax ?_
  refine bg rfl (by constructor) zN zS ?_
  exact vb (by
   unfold g9
   rw [hI.2, Bool.and_true]
   first
   | exact s3.symm
   | (have e1 : 0 ≤ r := by omega
      simp [e1]))
 have s1 : ¬ r < 0 := of_decide_eq_false hs
 refine yM rfl rfl ?_
 refine yK rfl ?_
 refine yK rfl ?_
 refine yK rfl ?_
 refine aa rfl (ct rfl rfl (by constructor)) ?_
 refine yN ?_
 dsimp only [St.put]
 refine K3 _ ?_
 refine aq rfl (fun h => by cases h) (fun _ => ?_)
 have s3 : (decide (0 ≤ r) || decide (l = [])) = true := by
  first
  | (rw [decide_eq_true (show 0 ≤ r by omega)]; rfl)
  | (have := of_decide_eq_false hc
     have : l = [] := List.eq_nil_of_length_eq_zero (by omega)
     simp [this])
 refine ay ?_
 refine K2 _ ?_
 refine yS fun _ K13 => ?_
 refine yS fun _ K14 => ?_
 refine yR ?_
 refine yA rfl rfl ?_
 refine yN ?_
 dsimp only [St.put]
 refine K14 _ ?_
 refine bf ?_
 refine co 10 ?_
 refine zQ ?_
 refine c7 (G) zX ?_
 dsimp only
 refine c6 (X := Nat) (fun i => i ≤ l.length ∧ dz t x l i = true) (fun i => l.length - i) (fun i => [(9, .v (.int .i64 (i : Int)))]) (fun i G' => G') 0 rfl ?_ ?_ (fun _ _ h => h) ?_ ?_ ?_
 ·exact ⟨Nat.zero_le _, rfl⟩
 ·exact zF
 ·rintro i hI
  exact zL
 ·exact fun _ _ _ _ h => .inl h
 rintro i hI
 dsimp only at hI ⊢
 refine yS fun _ K15 => ?_
 refine yS fun _ K16 => ?_
 refine yR ?_
 refine yM rfl rfl ?_
 refine yM rfl rfl ?_
 refine aa rfl (bi rfl rfl (List.length_map _)) ?_
 refine aa rfl (cn rfl rfl rfl) ?_
 refine yN ?_
 dsimp only [St.put]
 refine K16 _ ?_
 refine aq rfl (fun hc => ?_) (fun hc => ?_)
 ·replace hc := of_decide_eq_true hc
  obtain ⟨q, hq⟩ : ∃ q, l[i]? = some q := da (by omega)
  refine ay ?_
  refine K15 _ ?_
  refine yS fun _ K17 => ?_
  refine bf ?_
  refine co 10 ?_
  refine zQ ?_
  refine j4 (X := Bool) (fun d => jj t x l i = !d) (fun d => [(60, .v (.bool d))]) (fun d G' => G') rfl ?_ (fun _ _ _ _ h => .inl h) ?_ ?_
  ·rintro d hI
   exact zL
  ·refine rb [(0, none), (1, none), (2, none), (3, none), (4, none)] (fun _ => false) (fun i => [1, 2, 3].contains i) 33 (rl [5, 33]) (by kernel_rfl) (by kernel_rfl) ?_
   try dsimp only [St.put]
   refine bc rfl rfl rfl rfl (eh rfl rfl rfl) ?_
   refine xM rfl rfl rfl rfl rfl ?_
   refine xM rfl rfl rfl rfl rfl ?_
   try dsimp only [St.put]
   refine ae rfl rfl rfl rfl (br rfl rfl rfl rfl (bq (by assumption)) (Enc.len _)) ?_
   try dsimp only [St.put]
   refine bc rfl rfl rfl rfl (eh rfl rfl (Enc.len _)) ?_
   refine az ?_
   refine eb [5] (by kernel_rfl) (by simp) ?_
   refine d9 ?_ ?_
   ·try dsimp only [St.put]
    refine iz rfl rfl rfl (bd rfl rfl rfl (ufl t q ht) ?_)
    refine ep [(6, none), (7, none), (8, none), (9, none), (10, none), (11, none), (12, none), (14, none), (15, none), (16, none), (17, none)] (fun i => [6, 7, 9, 10, 11, 14, 16].contains i) 21 (rl [13, 1, 4, 20]) (by kernel_rfl) ?_
    refine ae rfl rfl rfl rfl (dw rfl rfl) ?_
    refine jf (fun hs => ?_) (fun hs => ?_)
    ·have s4 := hs
     refine xM rfl rfl rfl rfl rfl ?_
     refine aj rfl rfl rfl ?_
     refine aj rfl rfl rfl ?_
     refine aj rfl rfl rfl ?_
     refine aj rfl rfl rfl ?_
     refine aj rfl rfl rfl ?_
     refine aj rfl rfl rfl ?_
     refine aj rfl rfl rfl ?_
     refine aj rfl rfl rfl ?_
     refine aj rfl rfl rfl ?_
     refine az ?_
     refine eb [13] (by kernel_rfl) (by simp) ?_
     refine d9 ?_ ?_
     ·refine f9 rfl rfl rfl ?_
      refine eb [18] (by kernel_rfl) (by simp) ?_
      refine d9 ?_ ?_
      ·refine f9 rfl rfl rfl ?_
       refine ep [(19, none), (20, none), (21, none), (22, none), (23, none), (24, none), (25, none), (26, none), (27, none), (28, none), (29, none), (30, none), (31, none), (32, none), (33, none)] (fun i => [19, 20, 21, 22, 23, 24, 25, 26, 27, 28, 30, 31, 32].contains i) 4 (rl [34, 4]) (by kernel_rfl) ?_
       refine aj rfl rfl rfl ?_
       refine ae rfl rfl rfl rfl (cb rfl rfl (by constructor)) ?_
       refine xM rfl rfl rfl rfl rfl ?_
       refine aj rfl rfl rfl ?_
       refine aj rfl rfl rfl ?_
       refine aj rfl rfl rfl ?_
       refine aj rfl rfl rfl ?_
       refine aj rfl rfl rfl ?_
       refine aj rfl rfl rfl ?_
       refine aj rfl rfl rfl ?_
       refine aj rfl rfl rfl ?_
       refine aj rfl rfl rfl ?_
       refine aj rfl rfl rfl ?_
       refine aj rfl rfl rfl ?_
       refine aj rfl rfl rfl ?_
       refine az ?_
       refine eb [34] (by kernel_rfl) (by simp) ?_
       refine d9 ?_ ?_
       ·refine f9 rfl rfl rfl ?_
        refine ep [(35, none), (36, none), (37, none)] (fun i => [35, 36, 37].contains i) 0 (rl [38]) (by kernel_rfl) ?_
        refine aj rfl rfl rfl ?_
        refine aj rfl rfl rfl ?_
        refine ae rfl rfl rfl rfl (cb rfl rfl (by constructor)) ?_
        refine az ?_
        dsimp only [St.put]
        refine iw (by kernel_rfl) ?_
        refine ⟨_, ?_, ⟨⟨rfl, rfl⟩, zF, zB, zN, zX⟩⟩
        simp_all [jj, fl, mg]
        try (intro h0; omega)
       exact d8
      exact d8
     exact d8
    have hqp : fp t q = true := by simpa using hs
    refine xM rfl rfl rfl rfl rfl ?_
    try dsimp only [St.put]
    refine bc rfl rfl rfl rfl (eh rfl rfl rfl) ?_
    refine xM rfl rfl rfl rfl rfl ?_
    refine xM rfl rfl rfl rfl rfl ?_
    try dsimp only [St.put]
    refine ae rfl rfl rfl rfl (br rfl rfl rfl rfl (bq (by assumption)) (Enc.len _)) ?_
    try dsimp only [St.put]
    refine bc rfl rfl rfl rfl (eh rfl rfl (Enc.len _)) ?_
    refine ae rfl rfl rfl rfl (cv rfl rfl rfl) ?_
    try dsimp only [St.put]
    refine bc rfl rfl rfl rfl (cg rfl rfl) ?_
    refine ae rfl rfl rfl rfl (cv rfl rfl rfl) ?_
    try dsimp only [St.put]
    refine bc rfl rfl rfl rfl (cg rfl rfl) ?_
    refine az ?_
    refine eb [13] (by kernel_rfl) (by simp) ?_
    refine d9 ?_ ?_
    ·try dsimp only [St.put]
     refine iz rfl rfl rfl (bd rfl rfl rfl (xq t q ht hqp) ?_)
     refine eb [18] (by kernel_rfl) (by simp) ?_
     refine d9 ?_ ?_
     ·try dsimp only [St.put]
      refine iz rfl rfl rfl (bd rfl rfl rfl (ox _ _ _) ?_)
      refine ep [(19, none), (20, none), (21, none), (22, none), (23, none), (24, none), (25, none), (26, none), (27, none), (28, none), (29, none), (30, none), (31, none), (32, none), (33, none)] (fun i => [19, 20, 21, 22, 23, 24, 25, 26, 27, 28, 30, 31, 32].contains i) 4 (rl [34, 4]) (by kernel_rfl) ?_
      refine ae rfl rfl rfl rfl (dw rfl rfl) ?_
      refine jf (fun hs => ?_) (fun hs => ?_)
      ·have s5 := hs
       refine ae rfl rfl rfl rfl (ct rfl rfl (by constructor)) ?_
       refine xM rfl rfl rfl rfl rfl ?_
       refine aj rfl rfl rfl ?_
       refine aj rfl rfl rfl ?_
       refine aj rfl rfl rfl ?_
       refine aj rfl rfl rfl ?_
       refine aj rfl rfl rfl ?_
       refine aj rfl rfl rfl ?_
       refine aj rfl rfl rfl ?_
       refine aj rfl rfl rfl ?_
       refine aj rfl rfl rfl ?_
       refine aj rfl rfl rfl ?_
       refine aj rfl rfl rfl ?_
       refine aj rfl rfl rfl ?_
       refine az ?_
       refine eb [34] (by kernel_rfl) (by simp) ?_
       refine d9 ?_ ?_
       ·refine f9 rfl rfl rfl ?_
        refine ep [(35, none), (36, none), (37, none)] (fun i => [35, 36, 37].contains i) 0 (rl [38]) (by kernel_rfl) ?_
        refine aj rfl rfl rfl ?_
        refine aj rfl rfl rfl ?_
        refine ae rfl rfl rfl rfl (cb rfl rfl (by constructor)) ?_
        refine az ?_
        dsimp only [St.put]
        refine iw (by kernel_rfl) ?_
        refine ⟨_, ?_, ⟨⟨rfl, rfl⟩, zF, zB, zN, zX⟩⟩
        simp_all [jj, fl, mg]
        try (intro h0; omega)
       exact d8
      have s5 := hs
      refine ae rfl rfl rfl rfl (ct rfl rfl (by constructor)) ?_
      refine xM rfl rfl rfl rfl rfl ?_
      refine xM rfl rfl rfl rfl rfl ?_
      refine ae rfl rfl rfl rfl (gz rfl rfl rfl) ?_
      refine jf (fun hs => ?_) (fun hs => ?_)
      ·have s6 : 0 < i := by
        have := of_decide_eq_true hs
        omega
       obtain ⟨q0, hq0⟩ : ∃ q0, l[i - 1]? = some q0 := da (by omega)
       refine xM rfl rfl rfl rfl rfl ?_
       refine xM rfl rfl rfl rfl rfl ?_
       refine xM rfl rfl rfl rfl rfl ?_
       refine ae rfl rfl rfl rfl (f4 rfl rfl rfl (by omega)) ?_
       try dsimp only [St.put]
       refine ae rfl rfl rfl rfl (br (k := i - 1) rfl rfl rfl (by omega) (bq hq0) (Enc.len _)) ?_
       try dsimp only [St.put]
       refine bc rfl rfl rfl rfl (eh rfl rfl (Enc.len _)) ?_
       refine xM rfl rfl rfl rfl rfl ?_
       refine xM rfl rfl rfl rfl rfl ?_
       try dsimp only [St.put]
       refine ae rfl rfl rfl rfl (br rfl rfl rfl rfl (bq (by assumption)) (Enc.len _)) ?_
       try dsimp only [St.put]
       refine bc rfl rfl rfl rfl (eh rfl rfl (Enc.len _)) ?_
       refine az ?_
       refine eb [34] (by kernel_rfl) (by simp) ?_
       refine d9 ?_ ?_
       ·try dsimp only [St.put]
        refine iz rfl rfl rfl (bd rfl rfl rfl (ufp q0 q) ?_)
        refine ep [(35, none), (36, none), (37, none)] (fun i => [35, 36, 37].contains i) 0 (rl [38]) (by kernel_rfl) ?_
        refine ae rfl rfl rfl rfl (dw rfl rfl) ?_
        refine ae rfl rfl rfl rfl (cb rfl rfl (by constructor)) ?_
        refine ae rfl rfl rfl rfl (ct rfl rfl (by constructor)) ?_
        refine az ?_
        dsimp only [St.put]
        refine iw (by kernel_rfl) ?_
        refine ⟨_, ?_, ⟨⟨rfl, rfl⟩, zF, zB, zN, zX⟩⟩
        simp_all [jj, fl, mg]
        try (intro h0; omega)
       exact d8
      have s6 : i = 0 := by
       have := of_decide_eq_false hs
       omega
      refine xM rfl rfl rfl rfl rfl ?_
      refine aj rfl rfl rfl ?_
      refine aj rfl rfl rfl ?_
      refine aj rfl rfl rfl ?_
      refine aj rfl rfl rfl ?_
      refine aj rfl rfl rfl ?_
      refine aj rfl rfl rfl ?_
      refine aj rfl rfl rfl ?_
      refine aj rfl rfl rfl ?_
      refine aj rfl rfl rfl ?_
      refine az ?_
      refine eb [34] (by kernel_rfl) (by simp) ?_
      refine d9 ?_ ?_
      ·refine f9 rfl rfl rfl ?_
       refine ep [(35, none), (36, none), (37, none)] (fun i => [35, 36, 37].contains i) 0 (rl [38]) (by kernel_rfl) ?_
       refine aj rfl rfl rfl ?_
       refine ae rfl rfl rfl rfl (ct rfl rfl (by constructor)) ?_
       refine ae rfl rfl rfl rfl (ct rfl rfl (by constructor)) ?_
       refine az ?_
       dsimp only [St.put]
       refine iw (by kernel_rfl) ?_
       refine ⟨_, ?_, ⟨⟨rfl, rfl⟩, zF, zB, zN, zX⟩⟩
       simp_all [jj, fl, mg]
       try (intro h0; omega)
      exact d8
     exact d8
    exact d8
   exact d8
  rintro d hst
  dsimp only at hst ⊢
  refine aq rfl (fun hc => ?_) (fun hc => ?_)
  ·skip
   refine yS fun _ K19 => ?_
   refine yR ?_
   refine yA rfl rfl ?_
   refine yN ?_
   dsimp only [St.put]
   refine K19 _ ?_
   refine ax ?_
   refine bg rfl (by constructor) zN zS ?_
   exact vb (by
    have e : jj t x l i = false := by rw [hst, hc]; rfl
    have : dz t x l l.length = false := by
     refine List.all_eq_false.2 ⟨i, List.mem_range.2 (by omega), by rw [e]; simp⟩
    simp [g9, this])
  skip
  refine ay ?_
  refine K17 _ ?_
  refine yR ?_
  refine yM rfl rfl ?_
  refine aa rfl (bu rfl rfl rfl (by omega)) ?_
  refine yA rfl rfl ?_
  refine yN ?_
  dsimp only [St.put]
  exact ⟨i + 1, by omega, ⟨by omega, by rw [g3, hI.2, hst, hc]; rfl⟩, ⟨⟨rfl, rfl⟩, zF, zB, zN, zX⟩⟩
 replace hc := of_decide_eq_false hc
 obtain rfl : i = l.length := by omega
 refine cz ?_
 refine K13 _ ?_
 refine yS fun _ K20 => ?_
 refine yR ?_
 refine yA rfl rfl ?_
 refine yN ?_
 dsimp only [St.put]
 refine K20 _ ?_
 refine ax ?_
 refine bg rfl (by constructor) zN zS ?_
 exact vb (by
  unfold g9
  rw [hI.2, Bool.and_true]
  first
  | exact s3.symm
  | (have e1 : 0 ≤ r := by omega
     simp [e1]))
end Go.Proofs.YtbbdginipiljdaaGreatDoor
namespace Go.AB
open Go Go.RowKit
open Go.AB.Enc (cells)
open Go.PB (ba ai PlaceD bh bk bj bw ar ah cw bv dc dg)
def l7 (p : ah) (last : Int) (x : ar) : Bool := decide (last < x.fr) && decide (x.fr ≤ x.to) && decide (x.to < (l6 p.text : Int)) && inB x.fst (-1) ((p.firsts.length : Int) - 1) && inB x.snd (-1) ((p.seconds.length : Int) - 1)
theorem uu (p : ah) (last : Int) (x : ar) : lj p last x = (l7 p last x && (g9 p.text x x.fst x.found && g9 p.text x x.snd x.well)) := by
 unfold lj l7
 cases decide (last < x.fr) <;> cases decide (x.fr ≤ x.to) <;> cases decide (x.to < (l6 p.text : Int)) <;> cases inB x.fst (-1) ((p.firsts.length : Int) - 1) <;> cases inB x.snd (-1) ((p.seconds.length : Int) - 1) <;> simp
theorem xr {p : ah} {j : Nat} {x : ar} (h : p.pages[j]? = some x) : r6 p j = lj p (il p.pages j) x := by unfold r6; rw [h]
theorem uc2 {l : List ar} {j : Nat} {x : ar} (h : l[j]? = some x) : il l (j + 1) = x.to := by simp only [il, h]
theorem ut {p : ah} {j : Nat} {x : ar} (h : p.pages[j]? = some x) (hb : lj p (il p.pages j) x = false) : f8 p = false := by
 have : po p p.pages.length = false := List.all_eq_false.2 ⟨j, List.mem_range.2 (List.getElem?_eq_some_iff.1 h).1, by rw [xr h, hb]; simp⟩
 simp [f8, this]
end Go.AB
namespace Go.Proofs.YtbbdginipiljdaaGreatDoor
set_option maxRecDepth 10000
open Go.RowKit Go.AB
open Go.AB.Enc (cells)
open Go.PB (ba ai PlaceD bh bk bj bw ar ah cw bv dc dg)
set_option maxHeartbeats 2000000 in
theorem ui2 (p : ah) (ht : dr p.text = true) : Pure Tryz.prog 87 [val p] (.v (.bool (f8 p))) := by
 refine c4 Tryz.func87 rfl (fun m => .v) fun G nx => ?_
 simp only [Tryz.ntmps87, List.length_cons, List.length_nil, Nat.reduceAdd, Nat.reduceSub]
 refine bx fun hlt => ?_
 dsimp only at hlt
 refine yS fun _ K1 => ?_
 refine yR ?_
 try dsimp only [St.put]
 refine yB rfl rfl rfl ?_
 refine yA rfl rfl ?_
 refine yN ?_
 dsimp only [St.put]
 refine K1 _ ?_
 refine yS fun _ K2 => ?_
 refine yS fun _ K3 => ?_
 refine yR ?_
 refine yF rfl rfl rfl rfl ?_
 refine yL rfl rfl rfl ?_
 refine aa rfl (bi rfl rfl (List.length_map _)) ?_
 refine aa rfl (gz rfl rfl rfl) ?_
 refine eo (fun hs => ?_) (fun hs => ?_)
 ·have s1 : ¬ p.firsts.length ≤ 3 := by
   have := of_decide_eq_true hs
   omega
  refine yM rfl rfl ?_
  refine yK rfl ?_
  refine yK rfl ?_
  refine yK rfl ?_
  refine yK rfl ?_
  refine aa rfl (cb rfl rfl (by constructor)) ?_
  refine yM rfl rfl ?_
  refine yK rfl ?_
  refine yK rfl ?_
  refine yK rfl ?_
  refine yK rfl ?_
  refine aa rfl (cb rfl rfl (by constructor)) ?_
  refine yN ?_
  dsimp only [St.put]
  refine K3 _ ?_
  refine aq rfl (fun _ => ?_) (fun h => by cases h)
  refine yS fun _ K4 => ?_
  refine yR ?_
  refine yA rfl rfl ?_
  refine yN ?_
  dsimp only [St.put]
  refine K4 _ ?_
  refine ax ?_
  refine bg rfl (by constructor) zN zS ?_
  exact vb (by first | (simp [f8, jo, s1]; done) | (simp [f8, jo, s2]; done) | (simp [f8, s3]; done))
 have s1 : p.firsts.length ≤ 3 := by
  have := of_decide_eq_false hs
  omega
 refine yM rfl rfl ?_
 refine yF rfl rfl rfl rfl ?_
 refine yL rfl rfl rfl ?_
 refine aa rfl (bi rfl rfl (List.length_map _)) ?_
 refine aa rfl (gz rfl rfl rfl) ?_
 refine eo (fun hs => ?_) (fun hs => ?_)
 ·have s2 : ¬ p.seconds.length ≤ 3 := by
   have := of_decide_eq_true hs
   omega
  refine aa rfl (ct rfl rfl (by constructor)) ?_
  refine yM rfl rfl ?_
  refine yK rfl ?_
  refine yK rfl ?_
  refine yK rfl ?_
  refine yK rfl ?_
  refine aa rfl (cb rfl rfl (by constructor)) ?_
  refine yN ?_
  dsimp only [St.put]
  refine K3 _ ?_
  refine aq rfl (fun _ => ?_) (fun h => by cases h)
  refine yS fun _ K5 => ?_
  refine yR ?_
  refine yA rfl rfl ?_
  refine yN ?_
  dsimp only [St.put]
  refine K5 _ ?_
  refine ax ?_
  refine bg rfl (by constructor) zN zS ?_
  exact vb (by first | (simp [f8, jo, s1]; done) | (simp [f8, jo, s2]; done) | (simp [f8, s3]; done))
 have s2 : p.seconds.length ≤ 3 := by
  have := of_decide_eq_false hs
  omega
 refine aa rfl (ct rfl rfl (by constructor)) ?_
 refine yM rfl rfl ?_
 refine yF rfl rfl rfl rfl ?_
 refine yL rfl rfl rfl ?_
 refine aa rfl (bi rfl rfl (List.length_map _)) ?_
 refine aa rfl (gz rfl rfl rfl) ?_
 refine eo (fun hs => ?_) (fun hs => ?_)
 ·have s3 : ¬ p.pages.length ≤ 8 := by
   have := of_decide_eq_true hs
   omega
  refine aa rfl (ct rfl rfl (by constructor)) ?_
  refine yN ?_
  dsimp only [St.put]
  refine K3 _ ?_
  refine aq rfl (fun _ => ?_) (fun h => by cases h)
  refine yS fun _ K6 => ?_
  refine yR ?_
  refine yA rfl rfl ?_
  refine yN ?_
  dsimp only [St.put]
  refine K6 _ ?_
  refine ax ?_
  refine bg rfl (by constructor) zN zS ?_
  exact vb (by first | (simp [f8, jo, s1]; done) | (simp [f8, jo, s2]; done) | (simp [f8, s3]; done))
 have s3 : p.pages.length ≤ 8 := by
  have := of_decide_eq_false hs
  omega
 obtain ⟨A, hA⟩ : ∃ A, p.firsts ++ p.seconds = A := ⟨_, rfl⟩
 have hAl : A.length ≤ 6 := by rw [← hA, List.length_append]; omega
 refine aa rfl (ct rfl rfl (by constructor)) ?_
 refine yN ?_
 dsimp only [St.put]
 refine K3 _ ?_
 refine aq rfl (fun h => by cases h) (fun _ => ?_)
 refine ay ?_
 refine K2 _ ?_
 refine yS fun _ K7 => ?_
 refine yR ?_
 refine yA rfl rfl ?_
 refine yN ?_
 dsimp only [St.put]
 refine K7 _ ?_
 refine ue2 3 67 2 rfl (by decide) ?_
 refine yS fun _ K8 => ?_
 refine fu [(0, none), (1, none), (2, none), (4, none), (5, none), (3, none), (6, none), (7, none)] (fun i => [6].contains i) (fun i => [3, 6].contains i) (fun i => [0, 1, 4, 7].contains i) [] (by kernel_rfl) (by kernel_rfl) ?_
 refine xM rfl rfl rfl rfl rfl ?_
 refine ae rfl rfl rfl rfl (cv rfl rfl rfl) ?_
 try dsimp only [St.put]
 refine bc rfl rfl rfl rfl (cg rfl rfl) ?_
 refine ae rfl rfl rfl rfl (cv rfl rfl rfl) ?_
 try dsimp only [St.put]
 refine bc rfl rfl rfl rfl (cg rfl rfl) ?_
 refine g7 ?_
 try dsimp only [St.put]
 refine i9 rfl rfl rfl (th (xs := ([] : List bw)) p.firsts rfl rfl zG rfl rfl rfl rfl zA zA (fun v1 => ⟨zD, ?_⟩))
 try dsimp only [St.put]
 refine i9 rfl rfl rfl (th (xs := ([] : List bw) ++ p.firsts) p.seconds rfl rfl zG rfl rfl rfl rfl zA zA (fun v2 => ⟨zD, ?_⟩))
 refine dq rfl rfl rfl rfl (fa rfl (by constructor)) ?_
 refine gw ?_
 dsimp only [St.put]
 refine K8 _ ?_
 refine zo 3 (([] : List bw) ++ p.firsts ++ p.seconds) rfl zG rfl rfl rfl ?_
 refine c7 G zX ?_
 dsimp only
 rw [show ([] : List bw) ++ p.firsts ++ p.seconds = A from hA]
 refine yS fun _ K9 => ?_
 refine yS fun _ K10 => ?_
 refine yR ?_
 refine yA rfl rfl ?_
 refine yN ?_
 dsimp only [St.put]
 refine K10 _ ?_
 refine bf ?_
 refine co 9 ?_
 refine zQ ?_
 refine c7 (G) zX ?_
 dsimp only
 refine c6 (X := Nat) (fun i => i ≤ A.length ∧ (A.take i).all gr = true ∧ ((A.take i).map (·.id)).Nodup) (fun i => A.length - i) (fun i => [(4, .v (.int .i64 (i : Int))), (5, .any)]) (fun i G' => G') 0 rfl ?_ ?_ (fun _ _ h => h) ?_ ?_ ?_
 ·exact ⟨Nat.zero_le _, rfl, by simp⟩
 ·exact zF
 ·rintro i hI
  exact zL
 ·exact fun _ _ _ _ h => .inl h
 rintro i hI
 dsimp only at hI ⊢
 refine yS fun _ K11 => ?_
 refine yS fun _ K12 => ?_
 refine yR ?_
 refine yM rfl rfl ?_
 refine yM rfl rfl ?_
 refine aa rfl (bi rfl rfl (List.length_map _)) ?_
 refine aa rfl (cn rfl rfl rfl) ?_
 refine yN ?_
 dsimp only [St.put]
 refine K12 _ ?_
 refine aq rfl (fun hc => ?_) (fun hc => ?_)
 ·replace hc := of_decide_eq_true hc
  obtain ⟨r, hr⟩ : ∃ r, A[i]? = some r := da (by omega)
  refine ay ?_
  refine K11 _ ?_
  refine yS fun _ K13 => ?_
  refine bf ?_
  refine yS fun _ K14 => ?_
  refine yS fun _ K15 => ?_
  refine yR ?_
  refine yM rfl rfl ?_
  refine yM rfl rfl ?_
  refine aa rfl (br rfl rfl rfl rfl (bq (by assumption)) (Enc.len _)) ?_
  refine yF rfl rfl rfl rfl ?_
  refine yL rfl rfl rfl ?_
  try dsimp only [St.put]
  refine af rfl (bd rfl rfl rfl (ox _ _ _) ?_)
  refine aa rfl (dw rfl rfl) ?_
  refine eo (fun hs => ?_) (fun hs => ?_)
  ·have q1 : inB r.id 0 9999 = false := by simpa using hs
   refine yM rfl rfl ?_
   refine yK rfl ?_
   refine yK rfl ?_
   refine yK rfl ?_
   refine yK rfl ?_
   refine yK rfl ?_
   refine yK rfl ?_
   refine yK rfl ?_
   refine aa rfl (cb rfl rfl (by constructor)) ?_
   refine yN ?_
   dsimp only [St.put]
   refine K15 _ ?_
   refine aq rfl (fun _ => ?_) (fun h => by cases h)
   refine yS fun _ K16 => ?_
   refine yR ?_
   refine yA rfl rfl ?_
   refine yN ?_
   dsimp only [St.put]
   refine K16 _ ?_
   refine ax ?_
   refine bg rfl (by constructor) zN zS ?_
   exact vb (by
    have hb : gr r = false := by first | (simp [gr, q1]; done) | (simp [gr, q2]; done)
    have : A.all gr = false := j5 hr hb
    rw [← hA] at this
    simp only [f8, jo, this, Bool.and_false, Bool.false_and])
  have q1 : inB r.id 0 9999 = true := by simpa using hs
  refine yM rfl rfl ?_
  refine yM rfl rfl ?_
  refine yM rfl rfl ?_
  refine aa rfl (br rfl rfl rfl rfl (bq (by assumption)) (Enc.len _)) ?_
  refine yF rfl rfl rfl rfl ?_
  refine yL rfl rfl rfl ?_
  try dsimp only [St.put]
  refine af rfl (bd rfl rfl rfl (ox _ _ _) ?_)
  refine aa rfl (dw rfl rfl) ?_
  refine eo (fun hs => ?_) (fun hs => ?_)
  ·have q2 : inB r.miss 0 90 = false := by simpa using hs
   refine aa rfl (ct rfl rfl (by constructor)) ?_
   refine yN ?_
   dsimp only [St.put]
   refine K15 _ ?_
   refine aq rfl (fun _ => ?_) (fun h => by cases h)
   refine yS fun _ K17 => ?_
   refine yR ?_
   refine yA rfl rfl ?_
   refine yN ?_
   dsimp only [St.put]
   refine K17 _ ?_
   refine ax ?_
   refine bg rfl (by constructor) zN zS ?_
   exact vb (by
    have hb : gr r = false := by first | (simp [gr, q1]; done) | (simp [gr, q2]; done)
    have : A.all gr = false := j5 hr hb
    rw [← hA] at this
    simp only [f8, jo, this, Bool.and_false, Bool.false_and])
  have q2 : inB r.miss 0 90 = true := by simpa using hs
  have hrb : gr r = true := by simp [gr, q1, q2]
  refine aa rfl (ct rfl rfl (by constructor)) ?_
  refine yN ?_
  dsimp only [St.put]
  refine K15 _ ?_
  refine aq rfl (fun h => by cases h) (fun _ => ?_)
  refine ay ?_
  refine K14 _ ?_
  refine yS fun _ K18 => ?_
  refine yR ?_
  refine yA rfl rfl ?_
  refine yN ?_
  dsimp only [St.put]
  refine K18 _ ?_
  refine bf ?_
  refine co 9 ?_
  refine zQ ?_
  refine c7 (G) zX ?_
  dsimp only
  refine c6 (X := Nat) (fun k => k ≤ i ∧ ∀ y ∈ A.take k, y.id ≠ r.id) (fun k => i - k) (fun k => [(5, .v (.int .i64 (k : Int)))]) (fun k G' => G') 0 rfl ?_ ?_ (fun _ _ h => h) ?_ ?_ ?_
  ·exact ⟨Nat.zero_le _, by simp⟩
  ·exact zF
  ·rintro k hI
   exact zL
  ·exact fun _ _ _ _ h => .inl h
  rintro k hJ
  dsimp only at hJ ⊢
  refine yS fun _ K19 => ?_
  refine yS fun _ K20 => ?_
  refine yR ?_
  refine yM rfl rfl ?_
  refine yM rfl rfl ?_
  refine aa rfl (cn rfl rfl rfl) ?_
  refine yN ?_
  dsimp only [St.put]
  refine K20 _ ?_
  refine aq rfl (fun hc => ?_) (fun hc => ?_)
  ·replace hc := of_decide_eq_true hc
   obtain ⟨y, hy⟩ : ∃ y, A[k]? = some y := da (by omega)
   refine ay ?_
   refine K19 _ ?_
   refine yS fun _ K21 => ?_
   refine bf ?_
   refine yS fun _ K22 => ?_
   refine fu [(0, none), (1, none), (2, none), (3, none), (4, none), (5, none), (6, none), (7, none), (8, none), (9, none), (10, none)] (fun i => [].contains i) (fun i => [].contains i) (fun i => [0, 1, 2, 3, 5, 6, 7, 8, 10].contains i) [] (by kernel_rfl) (by kernel_rfl) ?_
   refine xM rfl rfl rfl rfl rfl ?_
   refine xM rfl rfl rfl rfl rfl ?_
   try dsimp only [St.put]
   refine ae rfl rfl rfl rfl (br rfl rfl rfl rfl (bq (by assumption)) (Enc.len _)) ?_
   refine ae rfl rfl rfl rfl (cv rfl rfl rfl) ?_
   try dsimp only [St.put]
   refine bc rfl rfl rfl rfl (cg rfl rfl) ?_
   refine xM rfl rfl rfl rfl rfl ?_
   refine xM rfl rfl rfl rfl rfl ?_
   try dsimp only [St.put]
   refine ae rfl rfl rfl rfl (br rfl rfl rfl rfl (bq (by assumption)) (Enc.len _)) ?_
   refine ae rfl rfl rfl rfl (cv rfl rfl rfl) ?_
   try dsimp only [St.put]
   refine bc rfl rfl rfl rfl (cg rfl rfl) ?_
   refine ae rfl rfl rfl rfl (fm rfl rfl rfl) ?_
   refine az ?_
   dsimp only [St.put]
   refine K22 _ ?_
   refine aq rfl (fun hc => ?_) (fun hc => ?_)
   ·have hyr : y.id = r.id := of_decide_eq_true hc
    refine yS fun _ K23 => ?_
    refine yR ?_
    refine yA rfl rfl ?_
    refine yN ?_
    dsimp only [St.put]
    refine K23 _ ?_
    refine ax ?_
    refine bg rfl (by constructor) zN zS ?_
    exact vb (by
     have : ¬ (A.map (·.id)).Nodup := x7 hy hr (by omega) hyr
     rw [← hA] at this
     simp only [f8, jo, decide_eq_false this, Bool.and_false, Bool.false_and])
   have hne : y.id ≠ r.id := of_decide_eq_false hc
   refine ay ?_
   refine K21 _ ?_
   refine yR ?_
   refine yM rfl rfl ?_
   refine aa rfl (bu rfl rfl rfl (by omega)) ?_
   refine yA rfl rfl ?_
   refine yN ?_
   dsimp only [St.put]
   exact ⟨k + 1, by omega, ⟨by omega, ye (p := fun y : bw => y.id ≠ r.id) hy hne hJ.2⟩, ⟨⟨rfl, rfl⟩, zF, zB, zN, zX⟩⟩
  replace hc := of_decide_eq_false hc
  have hki : k = i := by omega
  rw [hki] at hJ
  have hnd : r.id ∉ (A.take i).map (·.id) := fun hm => by
   obtain ⟨y, hy1, hy2⟩ := List.mem_map.1 hm
   exact hJ.2 y hy1 hy2
  refine cz ?_
  refine K13 _ ?_
  refine yR ?_
  refine yM rfl rfl ?_
  refine aa rfl (bu rfl rfl rfl (by omega)) ?_
  refine yA rfl rfl ?_
  refine yN ?_
  dsimp only [St.put]
  exact ⟨i + 1, by omega, ⟨by omega, by rw [p7 hr, hI.2.1, hrb]; rfl, by rw [o1 hr]; exact x8 hI.2.2 hnd⟩, ⟨⟨rfl, rfl⟩, zF, zB, zN, zX⟩⟩
 replace hc := of_decide_eq_false hc
 have hRB : jo p = true := by
  have h1 := hI.2.1
  have h2 := hI.2.2
  rw [gd (show A.length ≤ i by omega), ← hA] at h1 h2
  unfold jo
  rw [h1, decide_eq_true h2, decide_eq_true s1, decide_eq_true s2]; rfl
 refine cz ?_
 refine K9 _ ?_
 refine yS fun _ K24 => ?_
 refine yR ?_
 refine yA rfl rfl ?_
 refine yN ?_
 dsimp only [St.put]
 refine K24 _ ?_
 refine yS fun _ K25 => ?_
 refine yS fun _ K26 => ?_
 refine yR ?_
 refine yA rfl rfl ?_
 refine yN ?_
 dsimp only [St.put]
 refine K26 _ ?_
 refine bf ?_
 refine co 9 ?_
 refine zQ ?_
 refine c7 (G) zX ?_
 dsimp only
 refine c6 (X := Nat) (fun j => j ≤ p.pages.length ∧ po p j = true) (fun j => p.pages.length - j) (fun j => [(6, .v (.int .i64 (il p.pages j))), (7, .v (.int .i64 (j : Int))), (8, .any)]) (fun j G' => G') 0 rfl ?_ ?_ (fun _ _ h => h) ?_ ?_ ?_
 ·exact ⟨Nat.zero_le _, rfl⟩
 ·exact zF
 ·rintro j hI
  exact zL
 ·exact fun _ _ _ _ h => .inl h
 rintro j hK
 dsimp only at hK ⊢
 refine yS fun _ K27 => ?_
 refine yS fun _ K28 => ?_
 refine yR ?_
 refine yM rfl rfl ?_
 refine yF rfl rfl rfl rfl ?_
 refine yL rfl rfl rfl ?_
 refine aa rfl (bi rfl rfl (List.length_map _)) ?_
 refine aa rfl (cn rfl rfl rfl) ?_
 refine yN ?_
 dsimp only [St.put]
 refine K28 _ ?_
 refine aq rfl (fun hc => ?_) (fun hc => ?_)
 ·replace hc := of_decide_eq_true hc
  obtain ⟨x, hx⟩ : ∃ x, p.pages[j]? = some x := da (by omega)
  refine ay ?_
  refine K27 _ ?_
  refine yS fun _ K29 => ?_
  refine bf ?_
  refine yS fun _ K30 => ?_
  refine yR ?_
  refine yF rfl rfl rfl rfl ?_
  refine yL rfl rfl rfl ?_
  refine yM rfl rfl ?_
  refine aa rfl (br rfl rfl rfl rfl (bq (by assumption)) (Enc.len _)) ?_
  refine yE rfl rfl rfl ?_
  try dsimp only [St.put]
  refine af rfl (ed rfl ?_)
  try dsimp only [St.put]
  refine af rfl (dj rfl rfl rfl zG rfl rfl (by rfl) ?_)
  refine yN ?_
  dsimp only [St.put]
  refine K30 _ ?_
  refine gp (i := 8) rfl zG zC ?_
  dsimp only
  refine yS fun _ K31 => ?_
  refine co 9 ?_
  refine zQ ?_
  refine j4 (X := Bool) (fun d => l7 p (il p.pages j) x = !d) (fun d => [(120, .v (.bool d))]) (fun d G' => G') rfl ?_ (fun _ _ _ _ h => .inl h) ?_ ?_
  ·rintro d hI
   exact zL
  ·refine rb [(0, none), (1, none), (2, none), (3, none), (4, none), (5, none), (6, none), (7, none), (8, none), (9, none), (10, none), (11, none), (12, none), (13, none), (14, none), (15, none)] (fun _ => false) (fun i => [0, 2, 3, 4, 5, 7, 9, 10, 11, 12, 14].contains i) 23 (rl [16, 23]) (by kernel_rfl) (by kernel_rfl) ?_
   refine ae rfl rfl rfl rfl (cv rfl rfl rfl) ?_
   try dsimp only [St.put]
   refine bc rfl rfl rfl rfl (cg rfl rfl) ?_
   refine xM rfl rfl rfl rfl rfl ?_
   refine ae rfl rfl rfl rfl (sj rfl rfl rfl) ?_
   refine jf (fun hs => ?_) (fun hs => ?_)
   ·have z1 : x.fr ≤ il p.pages j := of_decide_eq_true hs
    refine xM rfl rfl rfl rfl rfl ?_
    refine aj rfl rfl rfl ?_
    refine aj rfl rfl rfl ?_
    refine aj rfl rfl rfl ?_
    refine aj rfl rfl rfl ?_
    refine aj rfl rfl rfl ?_
    refine ae rfl rfl rfl rfl (cb rfl rfl (by constructor)) ?_
    refine xM rfl rfl rfl rfl rfl ?_
    refine aj rfl rfl rfl ?_
    refine aj rfl rfl rfl ?_
    refine aj rfl rfl rfl ?_
    refine aj rfl rfl rfl ?_
    refine az ?_
    refine eb [16] (by kernel_rfl) (by simp) ?_
    refine d9 ?_ ?_
    ·refine f9 rfl rfl rfl ?_
     refine ep [(17, none), (18, none), (19, none), (20, none), (21, none), (22, none), (23, none), (24, none), (25, none)] (fun i => [17, 18, 19, 20, 22, 24, 25].contains i) 13 (rl [26, 13]) (by kernel_rfl) ?_
     refine aj rfl rfl rfl ?_
     refine ae rfl rfl rfl rfl (cb rfl rfl (by constructor)) ?_
     refine xM rfl rfl rfl rfl rfl ?_
     refine aj rfl rfl rfl ?_
     refine aj rfl rfl rfl ?_
     refine aj rfl rfl rfl ?_
     refine aj rfl rfl rfl ?_
     refine aj rfl rfl rfl ?_
     refine aj rfl rfl rfl ?_
     refine az ?_
     refine eb [26] (by kernel_rfl) (by simp) ?_
     refine d9 ?_ ?_
     ·refine f9 rfl rfl rfl ?_
      refine ep [(27, none), (28, none), (29, none), (30, none), (31, none), (32, none), (33, none), (34, none), (35, none)] (fun i => [27, 28, 29, 30, 32, 34, 35].contains i) 3 (rl [36, 3]) (by kernel_rfl) ?_
      refine aj rfl rfl rfl ?_
      refine ae rfl rfl rfl rfl (cb rfl rfl (by constructor)) ?_
      refine xM rfl rfl rfl rfl rfl ?_
      refine aj rfl rfl rfl ?_
      refine aj rfl rfl rfl ?_
      refine aj rfl rfl rfl ?_
      refine aj rfl rfl rfl ?_
      refine aj rfl rfl rfl ?_
      refine aj rfl rfl rfl ?_
      refine az ?_
      refine eb [36] (by kernel_rfl) (by simp) ?_
      refine d9 ?_ ?_
      ·refine f9 rfl rfl rfl ?_
       refine ep [(37, none), (38, none)] (fun i => [37, 38].contains i) 0 (rl [39]) (by kernel_rfl) ?_
       refine aj rfl rfl rfl ?_
       refine ae rfl rfl rfl rfl (cb rfl rfl (by constructor)) ?_
       refine az ?_
       dsimp only [St.put]
       refine iw (by kernel_rfl) ?_
       refine ⟨_, ?_, ⟨⟨rfl, rfl⟩, zF, zB, zN, zX⟩⟩
       simp_all [l7]
       try (intro h0; omega)
      exact d8
     exact d8
    exact d8
   have z1 : ¬ x.fr ≤ il p.pages j := of_decide_eq_false hs
   refine xM rfl rfl rfl rfl rfl ?_
   refine ae rfl rfl rfl rfl (cv rfl rfl rfl) ?_
   try dsimp only [St.put]
   refine bc rfl rfl rfl rfl (cg rfl rfl) ?_
   refine ae rfl rfl rfl rfl (cv rfl rfl rfl) ?_
   try dsimp only [St.put]
   refine bc rfl rfl rfl rfl (cg rfl rfl) ?_
   refine ae rfl rfl rfl rfl (cn rfl rfl rfl) ?_
   refine jf (fun hs => ?_) (fun hs => ?_)
   ·have z2 : x.to < x.fr := of_decide_eq_true hs
    refine ae rfl rfl rfl rfl (ct rfl rfl (by constructor)) ?_
    refine xM rfl rfl rfl rfl rfl ?_
    refine aj rfl rfl rfl ?_
    refine aj rfl rfl rfl ?_
    refine aj rfl rfl rfl ?_
    refine aj rfl rfl rfl ?_
    refine az ?_
    refine eb [16] (by kernel_rfl) (by simp) ?_
    refine d9 ?_ ?_
    ·refine f9 rfl rfl rfl ?_
     refine ep [(17, none), (18, none), (19, none), (20, none), (21, none), (22, none), (23, none), (24, none), (25, none)] (fun i => [17, 18, 19, 20, 22, 24, 25].contains i) 13 (rl [26, 13]) (by kernel_rfl) ?_
     refine aj rfl rfl rfl ?_
     refine ae rfl rfl rfl rfl (cb rfl rfl (by constructor)) ?_
     refine xM rfl rfl rfl rfl rfl ?_
     refine aj rfl rfl rfl ?_
     refine aj rfl rfl rfl ?_
     refine aj rfl rfl rfl ?_
     refine aj rfl rfl rfl ?_
     refine aj rfl rfl rfl ?_
     refine aj rfl rfl rfl ?_
     refine az ?_
     refine eb [26] (by kernel_rfl) (by simp) ?_
     refine d9 ?_ ?_
     ·refine f9 rfl rfl rfl ?_
      refine ep [(27, none), (28, none), (29, none), (30, none), (31, none), (32, none), (33, none), (34, none), (35, none)] (fun i => [27, 28, 29, 30, 32, 34, 35].contains i) 3 (rl [36, 3]) (by kernel_rfl) ?_
      refine aj rfl rfl rfl ?_
      refine ae rfl rfl rfl rfl (cb rfl rfl (by constructor)) ?_
      refine xM rfl rfl rfl rfl rfl ?_
      refine aj rfl rfl rfl ?_
      refine aj rfl rfl rfl ?_
      refine aj rfl rfl rfl ?_
      refine aj rfl rfl rfl ?_
      refine aj rfl rfl rfl ?_
      refine aj rfl rfl rfl ?_
      refine az ?_
      refine eb [36] (by kernel_rfl) (by simp) ?_
      refine d9 ?_ ?_
      ·refine f9 rfl rfl rfl ?_
       refine ep [(37, none), (38, none)] (fun i => [37, 38].contains i) 0 (rl [39]) (by kernel_rfl) ?_
       refine aj rfl rfl rfl ?_
       refine ae rfl rfl rfl rfl (cb rfl rfl (by constructor)) ?_
       refine az ?_
       dsimp only [St.put]
       refine iw (by kernel_rfl) ?_
       refine ⟨_, ?_, ⟨⟨rfl, rfl⟩, zF, zB, zN, zX⟩⟩
       simp_all [l7]
       try (intro h0; omega)
      exact d8
     exact d8
    exact d8
   have z2 : ¬ x.to < x.fr := of_decide_eq_false hs
   refine ae rfl rfl rfl rfl (ct rfl rfl (by constructor)) ?_
   refine xM rfl rfl rfl rfl rfl ?_
   refine ae rfl rfl rfl rfl (cv rfl rfl rfl) ?_
   try dsimp only [St.put]
   refine bc rfl rfl rfl rfl (cg rfl rfl) ?_
   refine ae rfl rfl rfl rfl (cv rfl rfl rfl) ?_
   try dsimp only [St.put]
   refine bc rfl rfl rfl rfl (c := ig p.text) (jc (cs := cells p) rfl rfl (show 1 ≤ 4 by decide)) ?_
   refine az ?_
   refine eb [16] (by kernel_rfl) (by simp) ?_
   refine d9 ?_ ?_
   ·try dsimp only [St.put]
    refine iz rfl rfl rfl (bd rfl rfl rfl (uiy p.text ht) ?_)
    refine ep [(17, none), (18, none), (19, none), (20, none), (21, none), (22, none), (23, none), (24, none), (25, none)] (fun i => [17, 18, 19, 20, 22, 24, 25].contains i) 13 (rl [26, 13]) (by kernel_rfl) ?_
    refine ae rfl rfl rfl rfl (mx rfl rfl rfl) ?_
    refine jf (fun hs => ?_) (fun hs => ?_)
    ·have z3 : (l6 p.text : Int) ≤ x.to := of_decide_eq_true hs
     refine ae rfl rfl rfl rfl (ct rfl rfl (by constructor)) ?_
     refine xM rfl rfl rfl rfl rfl ?_
     refine aj rfl rfl rfl ?_
     refine aj rfl rfl rfl ?_
     refine aj rfl rfl rfl ?_
     refine aj rfl rfl rfl ?_
     refine aj rfl rfl rfl ?_
     refine aj rfl rfl rfl ?_
     refine az ?_
     refine eb [26] (by kernel_rfl) (by simp) ?_
     refine d9 ?_ ?_
     ·refine f9 rfl rfl rfl ?_
      refine ep [(27, none), (28, none), (29, none), (30, none), (31, none), (32, none), (33, none), (34, none), (35, none)] (fun i => [27, 28, 29, 30, 32, 34, 35].contains i) 3 (rl [36, 3]) (by kernel_rfl) ?_
      refine aj rfl rfl rfl ?_
      refine ae rfl rfl rfl rfl (cb rfl rfl (by constructor)) ?_
      refine xM rfl rfl rfl rfl rfl ?_
      refine aj rfl rfl rfl ?_
      refine aj rfl rfl rfl ?_
      refine aj rfl rfl rfl ?_
      refine aj rfl rfl rfl ?_
      refine aj rfl rfl rfl ?_
      refine aj rfl rfl rfl ?_
      refine az ?_
      refine eb [36] (by kernel_rfl) (by simp) ?_
      refine d9 ?_ ?_
      ·refine f9 rfl rfl rfl ?_
       refine ep [(37, none), (38, none)] (fun i => [37, 38].contains i) 0 (rl [39]) (by kernel_rfl) ?_
       refine aj rfl rfl rfl ?_
       refine ae rfl rfl rfl rfl (cb rfl rfl (by constructor)) ?_
       refine az ?_
       dsimp only [St.put]
       refine iw (by kernel_rfl) ?_
       refine ⟨_, ?_, ⟨⟨rfl, rfl⟩, zF, zB, zN, zX⟩⟩
       simp_all [l7]
       try (intro h0; omega)
      exact d8
     exact d8
    have z3 : ¬ (l6 p.text : Int) ≤ x.to := of_decide_eq_false hs
    refine ae rfl rfl rfl rfl (ct rfl rfl (by constructor)) ?_
    refine xM rfl rfl rfl rfl rfl ?_
    refine ae rfl rfl rfl rfl (cv rfl rfl rfl) ?_
    try dsimp only [St.put]
    refine bc rfl rfl rfl rfl (cg rfl rfl) ?_
    refine ae rfl rfl rfl rfl (cv rfl rfl rfl) ?_
    try dsimp only [St.put]
    refine bc rfl rfl rfl rfl (cg rfl rfl) ?_
    refine ae rfl rfl rfl rfl (bi rfl rfl (List.length_map _)) ?_
    refine ae rfl rfl rfl rfl (f4 rfl rfl rfl (by omega)) ?_
    refine az ?_
    refine eb [26] (by kernel_rfl) (by simp) ?_
    refine d9 ?_ ?_
    ·try dsimp only [St.put]
     refine iz rfl rfl rfl (bd rfl rfl rfl (ox _ _ _) ?_)
     refine ep [(27, none), (28, none), (29, none), (30, none), (31, none), (32, none), (33, none), (34, none), (35, none)] (fun i => [27, 28, 29, 30, 32, 34, 35].contains i) 3 (rl [36, 3]) (by kernel_rfl) ?_
     refine ae rfl rfl rfl rfl (dw rfl rfl) ?_
     refine jf (fun hs => ?_) (fun hs => ?_)
     ·have z4 : inB x.fst (-1) ((p.firsts.length : Int) - 1) = false := by simpa using hs
      refine ae rfl rfl rfl rfl (ct rfl rfl (by constructor)) ?_
      refine xM rfl rfl rfl rfl rfl ?_
      refine aj rfl rfl rfl ?_
      refine aj rfl rfl rfl ?_
      refine aj rfl rfl rfl ?_
      refine aj rfl rfl rfl ?_
      refine aj rfl rfl rfl ?_
      refine aj rfl rfl rfl ?_
      refine az ?_
      refine eb [36] (by kernel_rfl) (by simp) ?_
      refine d9 ?_ ?_
      ·refine f9 rfl rfl rfl ?_
       refine ep [(37, none), (38, none)] (fun i => [37, 38].contains i) 0 (rl [39]) (by kernel_rfl) ?_
       refine aj rfl rfl rfl ?_
       refine ae rfl rfl rfl rfl (cb rfl rfl (by constructor)) ?_
       refine az ?_
       dsimp only [St.put]
       refine iw (by kernel_rfl) ?_
       refine ⟨_, ?_, ⟨⟨rfl, rfl⟩, zF, zB, zN, zX⟩⟩
       simp_all [l7]
       try (intro h0; omega)
      exact d8
     have z4 : inB x.fst (-1) ((p.firsts.length : Int) - 1) = true := by simpa using hs
     refine ae rfl rfl rfl rfl (ct rfl rfl (by constructor)) ?_
     refine xM rfl rfl rfl rfl rfl ?_
     refine ae rfl rfl rfl rfl (cv rfl rfl rfl) ?_
     try dsimp only [St.put]
     refine bc rfl rfl rfl rfl (cg rfl rfl) ?_
     refine ae rfl rfl rfl rfl (cv rfl rfl rfl) ?_
     try dsimp only [St.put]
     refine bc rfl rfl rfl rfl (cg rfl rfl) ?_
     refine ae rfl rfl rfl rfl (bi rfl rfl (List.length_map _)) ?_
     refine ae rfl rfl rfl rfl (f4 rfl rfl rfl (by omega)) ?_
     refine az ?_
     refine eb [36] (by kernel_rfl) (by simp) ?_
     refine d9 ?_ ?_
     ·try dsimp only [St.put]
      refine iz rfl rfl rfl (bd rfl rfl rfl (ox _ _ _) ?_)
      refine ep [(37, none), (38, none)] (fun i => [37, 38].contains i) 0 (rl [39]) (by kernel_rfl) ?_
      refine ae rfl rfl rfl rfl (dw rfl rfl) ?_
      refine jf (fun hs => ?_) (fun hs => ?_)
      ·have z5 : inB x.snd (-1) ((p.seconds.length : Int) - 1) = false := by simpa using hs
       refine ae rfl rfl rfl rfl (ct rfl rfl (by constructor)) ?_
       refine az ?_
       dsimp only [St.put]
       refine iw (by kernel_rfl) ?_
       refine ⟨_, ?_, ⟨⟨rfl, rfl⟩, zF, zB, zN, zX⟩⟩
       simp_all [l7]
       try (intro h0; omega)
      have z5 : inB x.snd (-1) ((p.seconds.length : Int) - 1) = true := by simpa using hs
      refine ae rfl rfl rfl rfl (ct rfl rfl (by constructor)) ?_
      refine az ?_
      dsimp only [St.put]
      refine iw (by kernel_rfl) ?_
      refine ⟨_, ?_, ⟨⟨rfl, rfl⟩, zF, zB, zN, zX⟩⟩
      simp_all [l7]
      try (intro h0; omega)
     exact d8
    exact d8
   exact d8
  rintro d hst
  dsimp only at hst ⊢
  refine aq rfl (fun hc => ?_) (fun hc => ?_)
  ·have hhd : l7 p (il p.pages j) x = false := by rw [hst, hc]; rfl
   refine yS fun _ K33 => ?_
   refine yR ?_
   refine yA rfl rfl ?_
   refine yN ?_
   dsimp only [St.put]
   refine K33 _ ?_
   refine ax ?_
   refine bg rfl (by constructor) zN zS ?_
   exact vb (ut hx (by rw [uu, hhd]; rfl)).symm
  have hhd : l7 p (il p.pages j) x = true := by rw [hst, hc]; rfl
  refine ay ?_
  refine K31 _ ?_
  refine yS fun _ K34 => ?_
  refine yS fun _ K35 => ?_
  refine yR ?_
  refine yF rfl rfl rfl rfl ?_
  try dsimp only [St.put]
  refine ci rfl (c := ig p.text) (jc (cs := cells p) rfl rfl (show 1 ≤ 4 by decide)) ?_
  refine yE rfl rfl rfl ?_
  refine yF rfl rfl rfl rfl ?_
  refine yL rfl rfl rfl ?_
  refine yF rfl rfl rfl rfl ?_
  refine yL rfl rfl rfl ?_
  try dsimp only [St.put]
  refine af rfl (bd rfl rfl rfl (ubd p.text x x.fst x.found ht) ?_)
  refine aa rfl (dw rfl rfl) ?_
  refine eo (fun hs => ?_) (fun hs => ?_)
  ·have hf1 : g9 p.text x x.fst x.found = false := by simpa using hs
   refine yM rfl rfl ?_
   refine yK rfl ?_
   refine yK rfl ?_
   refine yK rfl ?_
   refine yK rfl ?_
   refine yK rfl ?_
   refine yK rfl ?_
   refine yK rfl ?_
   refine yK rfl ?_
   refine yK rfl ?_
   refine aa rfl (cb rfl rfl (by constructor)) ?_
   refine yN ?_
   dsimp only [St.put]
   refine K35 _ ?_
   refine aq rfl (fun _ => ?_) (fun h => by cases h)
   refine yS fun _ K36 => ?_
   refine yR ?_
   refine yA rfl rfl ?_
   refine yN ?_
   dsimp only [St.put]
   refine K36 _ ?_
   refine ax ?_
   refine bg rfl (by constructor) zN zS ?_
   exact vb (ut hx (by rw [uu, hhd, hf1]; first | rfl | (rw [hf2]; rfl))).symm
  have hf1 : g9 p.text x x.fst x.found = true := by simpa using hs
  refine yM rfl rfl ?_
  refine yF rfl rfl rfl rfl ?_
  try dsimp only [St.put]
  refine ci rfl (c := ig p.text) (jc (cs := cells p) rfl rfl (show 1 ≤ 4 by decide)) ?_
  refine yE rfl rfl rfl ?_
  refine yF rfl rfl rfl rfl ?_
  refine yL rfl rfl rfl ?_
  refine yF rfl rfl rfl rfl ?_
  refine yL rfl rfl rfl ?_
  try dsimp only [St.put]
  refine af rfl (bd rfl rfl rfl (ubd p.text x x.snd x.well ht) ?_)
  refine aa rfl (dw rfl rfl) ?_
  refine eo (fun hs => ?_) (fun hs => ?_)
  ·have hf2 : g9 p.text x x.snd x.well = false := by simpa using hs
   refine aa rfl (ct rfl rfl (by constructor)) ?_
   refine yN ?_
   dsimp only [St.put]
   refine K35 _ ?_
   refine aq rfl (fun _ => ?_) (fun h => by cases h)
   refine yS fun _ K37 => ?_
   refine yR ?_
   refine yA rfl rfl ?_
   refine yN ?_
   dsimp only [St.put]
   refine K37 _ ?_
   refine ax ?_
   refine bg rfl (by constructor) zN zS ?_
   exact vb (ut hx (by rw [uu, hhd, hf1]; first | rfl | (rw [hf2]; rfl))).symm
  have hf2 : g9 p.text x x.snd x.well = true := by simpa using hs
  refine aa rfl (ct rfl rfl (by constructor)) ?_
  refine yN ?_
  dsimp only [St.put]
  refine K35 _ ?_
  refine aq rfl (fun h => by cases h) (fun _ => ?_)
  refine ay ?_
  refine K34 _ ?_
  refine yR ?_
  refine yF rfl rfl rfl rfl ?_
  refine yL rfl rfl rfl ?_
  refine yA rfl rfl ?_
  refine yN ?_
  dsimp only [St.put]
  refine K29 _ ?_
  refine yR ?_
  refine yM rfl rfl ?_
  refine aa rfl (bu rfl rfl rfl (by omega)) ?_
  refine yA rfl rfl ?_
  refine yN ?_
  dsimp only [St.put]
  rw [← uc2 hx]
  exact ⟨j + 1, by omega, ⟨by omega, by rw [ubn, hK.2, xr hx, uu, hhd, hf1, hf2]; rfl⟩, ⟨⟨rfl, rfl⟩, zF, zB, zN, zX⟩⟩
 replace hc := of_decide_eq_false hc
 obtain rfl : j = p.pages.length := by omega
 refine cz ?_
 refine K25 _ ?_
 refine yS fun _ K38 => ?_
 refine yR ?_
 refine yA rfl rfl ?_
 refine yN ?_
 dsimp only [St.put]
 refine K38 _ ?_
 refine ax ?_
 refine bg rfl (by constructor) zN zS ?_
 exact vb (by unfold f8; rw [hRB, hK.2, decide_eq_true s3]; rfl)
end Go.Proofs.YtbbdginipiljdaaGreatDoor
namespace Go.AB
open Go Go.RowKit
open Go.AB.Enc (cells)
open Go.PB (ba ai PlaceD bh bk bj bw ar ah cw bv dc dg)
theorem p6 {p : ah} {n : Int} (h : em p n = 0) : cx p = 0 ∧ ∃ (j : Nat) (x : ar), n = (j : Int) ∧ p.pages[j]? = some x ∧ l4 p n = x := by
 unfold em at h
 by_cases hc : cx p = 0
 ·rw [decide_eq_true hc, cond_true] at h
  cases hb : inB n 0 ((p.pages.length : Int) - 1)
  ·rw [hb] at h; cases h
  rw [inB_true] at hb
  obtain ⟨x, hx⟩ : ∃ x, p.pages[n.toNat]? = some x := ⟨_, List.getElem?_eq_getElem (show n.toNat < p.pages.length by omega)⟩
  exact ⟨hc, n.toNat, x, by omega, hx, by unfold l4; rw [hx]; rfl⟩
 rw [decide_eq_false hc, cond_false] at h
 exact absurd h hc
end Go.AB
namespace Go.Proofs.YtbbdginipiljdaaGreatDoor
set_option maxRecDepth 10000
open Go.RowKit Go.AB
open Go.AB.Enc (cells)
open Go.PB (ba ai PlaceD bh bk bj bw ar ah cw bv dc dg)
theorem ui4 (p : ah) : Pure Tryz.prog 49 [val p] (.v (.int .i64 (cx p))) := by
 refine c4 Tryz.func49 rfl (fun m => .v) fun G nx => ?_
 simp only [Tryz.ntmps49, List.length_cons, List.length_nil, Nat.reduceAdd, Nat.reduceSub]
 refine bx fun hlt => ?_
 dsimp only at hlt
 refine yS fun _ K1 => ?_
 refine yR ?_
 try dsimp only [St.put]
 refine yB rfl rfl rfl ?_
 refine yA rfl rfl ?_
 refine yN ?_
 dsimp only [St.put]
 refine K1 _ ?_
 refine yS fun _ K2 => ?_
 refine yS fun _ K3 => ?_
 refine yR ?_
 refine yF rfl rfl rfl rfl ?_
 try dsimp only [St.put]
 refine ci rfl (c := ig p.text) (jc (cs := cells p) rfl rfl (show 1 ≤ 4 by decide)) ?_
 try dsimp only [St.put]
 refine af rfl (bd rfl rfl rfl (uon p.text) ?_)
 refine yA rfl rfl ?_
 refine yN ?_
 dsimp only [St.put]
 refine K3 _ ?_
 refine yS fun _ K4 => ?_
 refine yR ?_
 refine yM rfl rfl ?_
 refine aa rfl (fk rfl rfl rfl) ?_
 refine yN ?_
 dsimp only [St.put]
 refine K4 _ ?_
 refine aq rfl (fun hc => ?_) (fun hc => ?_)
 ·have ht : dr p.text = false := by
   have h0 := jq hc
   unfold i4 at h0
   cases h1 : dr p.text
   ·rfl
   rw [h1] at h0; exact absurd rfl h0
  refine yS fun _ K5 => ?_
  refine yR ?_
  refine yM rfl rfl ?_
  refine yA rfl rfl ?_
  refine yN ?_
  dsimp only [St.put]
  refine K5 _ ?_
  refine ax ?_
  refine bg rfl (by constructor) zN zS ?_
  exact vi (by simp [cx, i4, ht])
 have ht : dr p.text = true := by
  have h0 := ii hc
  unfold i4 at h0
  cases h1 : dr p.text
  ·rw [h1] at h0; cases h0
  rfl
 refine ay ?_
 refine K2 _ ?_
 refine yS fun _ K6 => ?_
 refine yS fun _ K7 => ?_
 refine yR ?_
 refine yE rfl rfl rfl ?_
 try dsimp only [St.put]
 refine af rfl (bd rfl rfl rfl (ui2 p ht) ?_)
 refine aa rfl (dw rfl rfl) ?_
 refine yN ?_
 dsimp only [St.put]
 refine K7 _ ?_
 refine aq rfl (fun hc => ?_) (fun hc => ?_)
 ·have hp : f8 p = false := by simpa using hc
  refine yS fun _ K8 => ?_
  refine yR ?_
  refine yA rfl rfl ?_
  refine yN ?_
  dsimp only [St.put]
  refine K8 _ ?_
  refine ax ?_
  refine bg rfl (by constructor) zN zS ?_
  exact vi (by simp [cx, ht, hp])
 have hp : f8 p = true := by simpa using hc
 refine ay ?_
 refine K6 _ ?_
 refine yS fun _ K9 => ?_
 refine yR ?_
 refine yA rfl rfl ?_
 refine yN ?_
 dsimp only [St.put]
 refine K9 _ ?_
 refine ax ?_
 refine bg rfl (by constructor) zN zS ?_
 exact vi (by simp [cx, ht, hp])
end Go.Proofs.YtbbdginipiljdaaGreatDoor
namespace Go.Proofs.YtbbdginipiljdaaGreatDoor
set_option maxRecDepth 10000
open Go.RowKit Go.AB
open Go.AB.Enc (cells)
open Go.PB (ba ai PlaceD bh bk bj bw ar ah cw bv dc dg)
end Go.Proofs.YtbbdginipiljdaaGreatDoor
namespace Go.Proofs.YtbbdginipiljdaaGreatDoor
set_option maxRecDepth 10000
open Go.RowKit Go.AB
open Go.AB.Enc (cells)
open Go.PB (ba ai PlaceD bh bk bj bw ar ah cw bv dc dg)
end Go.Proofs.YtbbdginipiljdaaGreatDoor
namespace Go.Proofs.YtbbdginipiljdaaGreatDoor
set_option maxRecDepth 10000
open Go.RowKit Go.AB
open Go.AB.Enc (cells)
open Go.PB (ba ai PlaceD bh bk bj bw ar ah cw bv dc dg)
end Go.Proofs.YtbbdginipiljdaaGreatDoor
namespace Go.AB
open Go Go.RowKit
open Go.AB.Enc (cells)
open Go.PB (ba ai PlaceD bh bk bj bw ar ah cw bv)
/-! ### First and second readers change their places -/
/-! ### Errors that are missed -/
end Go.AB
namespace Go.AB
open Go Go.RowKit
open Go.AB.Enc (cells)
open Go.PB (ba ai PlaceD bh bk bj bw ar ah cw bv dc dg)
def qn (R : Nat → Int) (c : Int) (l : List Int) : Int := l.foldl (fun n z => min n (R z.toNat)) c
def kr (R : Nat → Int) (n : Int) (l : List Int) : Nat → Int := l.foldl (fun R z => fun i => bif decide (i = z.toNat) then R z.toNat - n else R i) R
theorem uhb (R : Nat → Int) (n : Int) : kr R n [] = R := rfl
theorem ukp {R : Nat → Int} {c : Int} {l : List Int} {k : Nat} {z : Int} (h : l[k]? = some z) : qn R c (l.take (k + 1)) = min (qn R c (l.take k)) (R z.toNat) := by
 unfold qn; rw [List.take_add_one, h, Option.toList_some, List.foldl_append]; rfl
theorem uha {R : Nat → Int} {n : Int} {l : List Int} {k : Nat} {z : Int} (h : l[k]? = some z) : kr R n (l.take (k + 1)) = fun i => bif decide (i = z.toNat) then kr R n (l.take k) z.toNat - n else kr R n (l.take k) i := by
 unfold kr; rw [List.take_add_one, h, Option.toList_some, List.foldl_append]; rfl
theorem uns {p : ah} {j : Nat} {x : ar} (hx : p.pages[j]? = some x) (R C : Nat → Int) : (bt p).alone R C j = qn R (C j) (du p x) := by
 simp only [Net.alone, bt, hx, du, qn]
 by_cases q1 : 0 ≤ x.fst <;> by_cases q2 : 0 ≤ x.snd
 ·simp [q1, q2, nv, show ((p.firsts.length : Int) + x.snd).toNat = p.firsts.length + x.snd.toNat by omega]
 ·simp [q1, q2, nv]
 ·simp [q1, q2, nv, show ((p.firsts.length : Int) + x.snd).toNat = p.firsts.length + x.snd.toNat by omega]
 ·simp [q1, q2, nv]
theorem uk4 {p : ah} (h : ef p) {j : Nat} {x : ar} (hx : p.pages[j]? = some x) (R : Nat → Int) (n : Int) : (bt p).lessR R j n = kr R n (du p x) := by
 have hp := pageB_true.1 (h.page j x hx)
 have h1 := hp.fst
 have h2 := hp.snd
 funext i
 simp only [Net.lessR, Net.by, bt, hx, du, kr]
 by_cases q1 : 0 ≤ x.fst <;> by_cases q2 : 0 ≤ x.snd
 ·have e2 : ((p.firsts.length : Int) + x.snd).toNat = p.firsts.length + x.snd.toNat := by omega
  have hne : ¬ p.firsts.length + x.snd.toNat = x.fst.toNat := by omega
  rw [decide_eq_true q1, decide_eq_true q2]
  simp only [cond_true, List.cons_append, List.nil_append, List.foldl_cons, List.foldl_nil, e2, Option.some.injEq]
  by_cases z1 : i = x.fst.toNat
  ·have z2 : ¬ i = p.firsts.length + x.snd.toNat := by omega
   simp [z1.symm, z2, Ne.symm z2]
  ·by_cases z2 : i = p.firsts.length + x.snd.toNat
   ·simp [z1, Ne.symm z1, z2, hne, Ne.symm hne]
   ·simp [z1, Ne.symm z1, z2, Ne.symm z2]
 ·rw [decide_eq_true q1, decide_eq_false q2]
  simp only [cond_true, cond_false, List.append_nil, List.foldl_cons, List.foldl_nil, Option.some.injEq]
  by_cases z1 : i = x.fst.toNat
  ·simp [z1]
  ·simp [z1, Ne.symm z1]
 ·have e2 : ((p.firsts.length : Int) + x.snd).toNat = p.firsts.length + x.snd.toNat := by omega
  rw [decide_eq_false q1, decide_eq_true q2]
  simp only [cond_true, cond_false, List.nil_append, List.foldl_cons, List.foldl_nil, e2, Option.some.injEq]
  by_cases z2 : i = p.firsts.length + x.snd.toNat
  ·simp [z2]
  ·simp [z2, Ne.symm z2]
 ·rw [decide_eq_false q1, decide_eq_false q2]
  simp
theorem zk {p : ah} {R C : Nat → Int} (hB : Bd p R C) {j : Nat} {n : Int} (h0 : 0 ≤ n) (hn : n ≤ (bt p).alone R C j) : Bd p ((bt p).lessR R j n) (d7 C j) := by
 refine ⟨fun i => ?_, fun k => ?_, hB.nr, hB.np⟩
 ·unfold Net.lessR
  cases hb : (bt p).by j i
  ·exact hB.r i
  ·have h1 := (Net.le_alone.1 hn).2 i hb
   have h2 := hB.r i
   show -1000000 ≤ R i - n ∧ R i - n ≤ 1000000
   omega
 ·unfold d7
  cases decide (k = j)
  ·exact hB.c k
  ·exact ⟨Int.le_refl _, by show (0 : Int) ≤ 1000000; omega⟩
/-- what is above has been looked at -/
def FromTop (p : ah) (R C : Nat → Int) (j : Nat) (n : Int) : Prop := (bt p).pick R C j ≤ n ∧ n ≤ (bt p).alone R C j ∧ ∀ m, n < m → m ≤ (bt p).alone R C j → ¬ (bt p).most R C ≤ m + (bt p).most ((bt p).lessR R j m) (d7 C j)
theorem FromTop.start {p : ah} {R C : Nat → Int} {j : Nat} (h : (bt p).Pick R C j ((bt p).pick R C j)) : FromTop p R C j ((bt p).alone R C j) := ⟨h.le, Int.le_refl _, fun m h1 h2 => by omega⟩
theorem FromTop.stop {p : ah} {R C : Nat → Int} {j : Nat} {n : Int} (h : (bt p).Pick R C j ((bt p).pick R C j)) (k : FromTop p R C j n) (hs : (bt p).most R C ≤ n + (bt p).most ((bt p).lessR R j n) (d7 C j)) : n = (bt p).pick R C j :=
 Net.Pick.uniq ⟨Int.le_trans h.nn k.1, k.2.1, hs, k.2.2⟩ h
theorem FromTop.down {p : ah} {R C : Nat → Int} {j : Nat} {n : Int} (h : (bt p).Pick R C j ((bt p).pick R C j)) (k : FromTop p R C j n) (hs : ¬ (bt p).most R C ≤ n + (bt p).most ((bt p).lessR R j n) (d7 C j)) : FromTop p R C j (n - 1) := by
 refine ⟨?_, by have := k.2.1; omega, fun m h1 h2 => ?_⟩
 ·have h1 := k.1
  by_cases e : n = (bt p).pick R C j
  ·subst e
   exact absurd h.ok hs
  ·omega
 ·by_cases e : m = n
  ·subst e; exact hs
  ·exact k.2.2 m (by omega) h2
end Go.AB
namespace Go.AB
open Go Go.RowKit
open Go.AB.Enc (cells)
section
variable {P : Program} {o : Oper} {st : St} {K : St → Prop}
/-- An empty slice that is built: owned. -/
theorem umn {t e : TypeId} {sz bytes : Nat} [AppT P t e sz bytes] (ho : o.op = .buildSlice t 0 #[]) (hsz1 : 1 ≤ sz) (h : K (St.put { st with G := am st.G st.nx (.arr 0 0 e sz 0 []), nx := st.nx + 1 } o.dst (.own st.nx 0 0))) : EStep P o st K :=
 j2 fun E w a hsim => by
  obtain ⟨ht, i, z, hie, hz, h1, h2, h3⟩ := AppT.spec (P := P) (t := t) (e := e) (sz := sz) (bytes := bytes)
  obtain ⟨ob, hob⟩ : ∃ ob, ob = Obj.cells #[] e := ⟨_, rfl⟩
  have hev := Ev.laid hsim.g (o := ob) 0 (.inl rfl)
  have hg := SimG.laid hsim.g (o := ob) 0 (.inl rfl)
  have hnew : (w.alloc ob).heap[w.heap.size]? = some ob := qv w ob
  have hsz : (w.alloc ob).heap.size = w.heap.size + 1 := by simp
  have hold : ∀ n tt b, (E.lay w.heap.size 0).T n = some tt → blk tt.2.2 = some b → b < w.heap.size := fun n tt b h5 h6 => (hsim.g.tb n _ _ _ b h5 h6).2
  have hnx := hsim.g.nx
  have hfr : ∀ b o', blk (.slice (some ⟨w.heap.size, 0, none⟩) 0 0) = some b → w.heap[b]? = some o' → False := fun b o' hbk ho' => by
   simp only [blk, Option.some.injEq] at hbk
   subst hbk
   have := (Array.getElem?_eq_some_iff.1 ho').1
   omega
  have hev2 := hev.thenName (.slice (some ⟨w.heap.size, 0, none⟩) 0 0) hfr
  have hg2 := SimG.name hg (.slice (some ⟨w.heap.size, 0, none⟩) 0 0) (.arr 0 0 e sz 0 []) (fun b hbk => by
   simp only [blk, Option.some.injEq] at hbk
   subst hbk
   exact ⟨hsim.g.base, by rw [hsz]; omega, fun n tt h5 h6 => absurd (hold n tt _ h5 h6) (by omega)⟩) (by
   refine ⟨.slice (some ⟨w.heap.size, 0, none⟩) 0 0, [], ?_, ⟨by simp, .inr ⟨w.heap.size, 0, _, rfl, hsim.g.base, hnew.trans (by rw [hob]), Nat.le_refl _, Nat.zero_le _, by simp, by simp⟩⟩, fun c hc => (by cases hc), Rs.nil, fun b hbk => ?_, hsz1⟩
   ·simp [Env.name, Env.lay, hnx]
   ·simp only [blk, Option.some.injEq] at hbk
    subst hbk
    simp [Env.name, Env.lay])
  refine ⟨.slice (some ⟨w.heap.size, 0, none⟩) 0 0, w.alloc ob, _, _, _, .own st.nx 0 0, ?_, hev2, ?_, hg2, h⟩
  ·subst hob
   simp [execOp, ho, Instr.buildSlice, run_underlying ht, sizeOf, typeInfo, hie, Instr.fill, newRow, newObj, Sem.run, show (Array.map (fun _ => (default : Value)) (Array.range 0)) = #[] from by simp]
  ·refine R.own (by simp [Env.name, Env.lay]; omega) (Nat.le_refl _) (Nat.zero_le _) fun ver wv val htt => ?_
   simp only [Env.name, Env.lay, hnx, if_true, Option.some.injEq, Prod.mk.injEq] at htt
   obtain ⟨rfl, rfl, rfl⟩ := htt
   exact ⟨Nat.le_refl _, fun _ => ⟨_, Nat.le_refl _, rfl⟩⟩
end
end Go.AB
namespace Go.AB
open Go Go.RowKit
open Go.AB.Enc (cells)
variable {ρ : Option Nat}
section
variable {P : Program} {Q : Exit → St → Prop} {st : St}
end
section
variable {P : Program} {o : Oper} {st : St} {K : St → Prop}
end
end Go.AB
namespace Go.AB
open Go Go.RowKit
/-- What stands in a slot is known less well. -/
theorem wg {ρ : Option Nat} {P : Program} {Q : Exit → St → Prop} {st : St} {x : Code} (i : Nat) {c : C} (c' : C) (h0 : st.at i = c) (hw : Wk c c') (h : AW ρ P x Q { st with r := (i, c') :: st.r }) : AW ρ P x Q st := by
 intro E w a hs
 have hp := hs.at i
 rw [h0] at hp
 refine h E w a ⟨hs.d, hs.sz, fun j v hj => ?_, hs.g⟩
 simp only [dt]
 cases hb : Nat.beq i j
 ·exact hs.t j v hj
 ·have hij := Nat.eq_of_beq_eq_true hb
  subst hij
  have hv : a.tmps.getD i undef = v := by rw [Array.getD_eq_getD_getElem?, hj]; rfl
  rw [hv] at hp
  exact hw.2 _ _ _ hp
end Go.AB
namespace Go.AB
open Go Go.RowKit
open Go.AB.Enc (cells)
open Go.PB (ba ai PlaceD bh bk bj bw ar ah cw bv dc dg)
theorem qz {l : List Int} {k : Nat} {z : Int} (h : l[k]? = some z) : (c5 l)[k]? = some (.v (.int .i64 z)) := by
 have e : c5 l = l.map fun y => .v (.int .i64 y) := by
  clear h
  induction l with
  | nil => rfl
  | cons y l ih =>
   have h1 : c5 (y :: l) = cells y ++ c5 l := by simp [c5]
   rw [h1, ih]; rfl
 rw [e, List.getElem?_map, h]; rfl
end Go.AB
namespace Go.Proofs.YtbbdginipiljdaaGreatDoor
set_option maxRecDepth 10000
open Go.RowKit Go.AB
open Go.AB.Enc (cells)
open Go.PB (ba ai PlaceD bh bk bj bw ar ah cw bv dc dg)
theorem xn {p : ah} (h : ef p) {j : Nat} {x : ar} (hx : p.pages[j]? = some x) {k : Nat} (hk : k < (du p x).length) : ∃ zn : Nat, (du p x)[k]? = some (zn : Int) ∧ zn < cj p := by
 have hp := pageB_true.1 (h.page j x hx)
 have h1 := hp.fst
 have h2 := hp.snd
 obtain ⟨z, hz⟩ : ∃ z, (du p x)[k]? = some z := ⟨_, List.getElem?_eq_getElem hk⟩
 have hm := List.mem_of_getElem? hz
 have hb : 0 ≤ z ∧ z < (cj p : Int) := by
  unfold du at hm
  unfold cj
  rw [List.mem_append] at hm
  rcases hm with hm | hm
  ·by_cases q : 0 ≤ x.fst
   ·rw [decide_eq_true q, cond_true, List.mem_singleton] at hm; omega
   rw [decide_eq_false q] at hm; cases hm
  by_cases q : 0 ≤ x.snd
  ·rw [decide_eq_true q, cond_true, List.mem_singleton] at hm; omega
  rw [decide_eq_false q] at hm; cases hm
 exact ⟨z.toNat, by rw [hz]; congr 1; omega, by omega⟩
end Go.Proofs.YtbbdginipiljdaaGreatDoor
