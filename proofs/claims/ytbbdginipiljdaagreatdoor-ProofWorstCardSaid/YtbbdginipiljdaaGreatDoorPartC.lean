/-
  What the walks through the program rest on: values, states, steps, calls (LaRef, PaFlow, PbData, PcWorst, PdPlain, PeSets, PfPlain, PgSides, PhApart, PiWhy, PjWhy, PsExamples, PpAdd, PlTruth, PqRest, AbTwin, AbCut, RaStd, OpenE, AbRem, AbBits, QaRef, QbRef, QcRef, RbSides, QdRef, QeRef, KxBefore, QfRef, QgRef, QhRef, QiRef, QjRef, QkRef, PmMore, QlPlain, AbZero, AbGrow, AbCutN, QmRef).
-/
import Derived.Test.YtbbdginipiljdaaGreatDoorPartB
import Derived.Lib.Hide
import Derived.Shelf.SlicesE.DeleteFunc
import Derived.Deep.Slices
import Derived.Lib.SmallJoins
import Derived.Carry
import Derived.ProofKit
import Derived.OpenShut
namespace Go.AB
open Go Go.RowKit
open Go.AB.Enc (cells)
open Go.PB (aw ai PlaceD bc bg bf)
def dc (t : ai) : List PlaceD := (i6 t).map (·.1)
def gk (t : ai) (k : Nat) (ls : List (List ByteArray)) (n : Nat) : List PlaceD := dc (t.take k) ++ (ly k (ls.take n)).map (·.1)
def lz (t : ai) (k : Nat) (ls : List (List ByteArray)) (n : Nat) (l : List ByteArray) (w : Nat) : List PlaceD := gk t k ls n ++ (jq k n (l.take w)).map (·.1)
theorem uf0 (t : ai) (k : Nat) (ls : List (List ByteArray)) : dc (t.take k) = gk t k ls 0 := by simp [gk, ly]
theorem ufy (t : ai) (k : Nat) (ls : List (List ByteArray)) (n : Nat) (l : List ByteArray) : gk t k ls n = lz t k ls n l 0 := by simp [lz, jq]
theorem uf1 {t : ai} {k n : Nat} {c : aw} (hk : t[k]? = some c) (hn : c.lines.length ≤ n) : gk t k c.lines n = dc (t.take (k + 1)) := by
 unfold gk dc
 rw [List.take_of_length_le hn, uf2 hk, List.map_append]
theorem uoq {t : ai} {k n w : Nat} {ls : List (List ByteArray)} {l : List ByteArray} (hn : ls[n]? = some l) (hw : l.length ≤ w) : lz t k ls n l w = gk t k ls (n + 1) := by
 unfold lz gk
 rw [List.take_of_length_le hw, uaa k hn, List.map_append, List.append_assoc]
theorem uop {t : ai} {k n w : Nat} {ls : List (List ByteArray)} {l : List ByteArray} (hw : w < l.length) : lz t k ls n l w ++ [(⟨k, n, w⟩ : PlaceD)] = lz t k ls n l (w + 1) := by
 unfold lz
 rw [ulu k n (List.getElem?_eq_getElem hw), List.map_append, List.append_assoc]; rfl
theorem lh {t : ai} (ht : dg t = true) : (dc t).length ≤ 600 := by rw [dc, List.length_map]; exact uf3 ht
theorem ufz {t : ai} (ht : dg t = true) {k n : Nat} {c : aw} {l : List ByteArray} (hk : t[k]? = some c) (hn : c.lines[n]? = some l) (w : Nat) : (lz t k c.lines n l w).length ≤ 600 := by
 have h1 := (ug9 hk hn w).length_le
 have h2 := uf3 ht
 simp only [List.length_append] at h1
 simp only [lz, gk, dc, List.length_append, List.length_map]
 omega
theorem ub8 {t : ai} {p : PlaceD} (hp : fh t p = true) : ∃ (k n w : Nat) (c : aw) (l : List ByteArray), p = ⟨k, n, w⟩ ∧ t[k]? = some c ∧ c.lines[n]? = some l ∧ l[w]? = some (sj t p) := by
 obtain ⟨l, hw, h1, h2⟩ := placeB_true.1 hp
 obtain ⟨k, n, c, hkn, hk, hn⟩ := si hw
 refine ⟨k, n, p.wd.toNat, c, l, ?_, hk, hn, ?_⟩
 ·have e1 : p.ch = (k : Int) := congrArg Prod.fst hkn
  have e2 : p.ln = (n : Int) := congrArg Prod.snd hkn
  obtain ⟨a, b, d⟩ := p
  dsimp only at e1 e2 h1 ⊢
  subst e1; subst e2
  rw [Int.toNat_of_nonneg h1]
 unfold sj
 rw [hw, Option.getD_some, List.getElem?_eq_getElem (by omega)]
 rfl
theorem uf4 {t : ai} {k : Nat} {x : PW} (hx : (i6 t)[k]? = some x) : fh t x.1 = true ∧ sj t x.1 = x.2 := by
 have hm := List.mem_of_getElem? hx
 exact ⟨allP_mem.1 (List.mem_map.2 ⟨x, hm, rfl⟩), uor hm⟩
theorem y7 {α : Type} {l : List α} {k : Nat} {x : α} {p : α → Prop} (hx : l[k]? = some x) (hp : p x) (h : ∀ y ∈ l.take k, p y) : ∀ y ∈ l.take (k + 1), p y := fun y hy => by
 rw [List.take_add_one, hx] at hy
 simp only [Option.toList_some, List.mem_append, List.mem_singleton] at hy
 rcases hy with hy | rfl
 ·exact h y hy
 exact hp
/-! ### A word in its place -/
end Go.AB
namespace Go.Proofs.YtbbdginipiljdaaGreatDoor
set_option maxRecDepth 10000
open Go.RowKit Go.AB
open Go.AB.Enc (cells)
open Go.PB (aw ai PlaceD bc bg bf)
theorem ubx (t : ai) (ht : dg t = true) : Pure Tryz.prog 24 [g5 t] (lst (dc t)) := by
 refine co Tryz.func24 rfl (fun m => (br _ _)) fun G nx => ?_
 simp only [Tryz.ntmps24, List.length_cons, List.length_nil, Nat.reduceAdd, Nat.reduceSub]
 refine bq fun hlt => ?_
 dsimp only at hlt
 obtain ⟨hl1, hl2, hl3⟩ := km ht
 refine yS fun _ K1 => ?_
 refine yR ?_
 try dsimp only [St.put]
 refine yB rfl rfl rfl ?_
 refine yA rfl rfl ?_
 refine yN ?_
 dsimp only [St.put]
 refine K1 _ ?_
 refine yS fun _ K2 => ?_
 refine yR ?_
 refine yA rfl rfl ?_
 refine yN ?_
 dsimp only [St.put]
 refine K2 _ ?_
 refine nh 3 61 3 rfl (by decide) ?_
 dsimp only [List.set_cons_zero, List.set_cons_succ]
 refine yS fun _ K3 => ?_
 refine yS fun _ K4 => ?_
 refine yR ?_
 refine yA rfl rfl ?_
 refine yN ?_
 dsimp only [St.put]
 refine K4 _ ?_
 refine az ?_
 refine cb 7 ?_
 refine zQ ?_
 refine ct (ak G nx (.tip 0 61 3)) zX ?_
 dsimp only
 refine cr (X := Nat) (fun k => k ≤ t.length) (fun k => t.length - k) (fun k => [(3, .list ((dc (t.take k)).map cells) (.tip nx)), (4, .v (.int .i64 (k : Int))), (5, .any), (6, .any)]) (fun k G' => (ak G nx (.tip ((dc (t.take k))).length 61 3))) 0 rfl ?_ ?_ ?_ ?_ ?_ ?_
 ·exact Nat.zero_le _
 ·exact zF
 ·exact zX
 ·rintro k hI
  exact zL
 ·rintro k hI
  exact zH
 rintro k hI
 dsimp only at hI ⊢
 refine yS fun _ K5 => ?_
 refine yS fun _ K6 => ?_
 refine yR ?_
 refine yM rfl rfl ?_
 refine yF rfl rfl rfl rfl ?_
 refine yL rfl rfl rfl ?_
 refine aa rfl (bd rfl rfl (List.length_map _)) ?_
 refine aa rfl (ca rfl rfl rfl) ?_
 refine yN ?_
 dsimp only [St.put]
 refine K6 _ ?_
 refine am rfl (fun hc => ?_) (fun hc => ?_)
 ·replace hc := of_decide_eq_true hc
  obtain ⟨c, hk⟩ : ∃ x, t[k]? = some x := cw (by omega)
  have hcl := hl3 c (fu hk)
  refine av ?_
  refine K5 _ ?_
  refine yS fun _ K7 => ?_
  refine az ?_
  refine yS fun _ K8 => ?_
  refine yR ?_
  refine yA rfl rfl ?_
  refine yN ?_
  dsimp only [St.put]
  rw [uf0 t k c.lines]
  refine K8 _ ?_
  refine az ?_
  refine cb 7 ?_
  refine zQ ?_
  refine ct ((ak G nx (.tip ((gk t k c.lines 0)).length 61 3))) zX ?_
  dsimp only
  refine cr (X := Nat) (fun n => n ≤ c.lines.length) (fun n => c.lines.length - n) (fun n => [(3, .list ((gk t k c.lines n).map cells) (.tip nx)), (5, .v (.int .i64 (n : Int))), (6, .any)]) (fun n G' => (ak G nx (.tip ((gk t k c.lines n)).length 61 3))) 0 rfl ?_ ?_ ?_ ?_ ?_ ?_
  ·exact Nat.zero_le _
  ·exact zF
  ·exact zX
  ·rintro n hI
   exact zL
  ·rintro n hI
   exact zH
  rintro n hJ
  dsimp only at hJ ⊢
  refine yS fun _ K9 => ?_
  refine yS fun _ K10 => ?_
  refine yR ?_
  refine yM rfl rfl ?_
  refine yF rfl rfl rfl rfl ?_
  refine yL rfl rfl rfl ?_
  refine yM rfl rfl ?_
  refine aa rfl (bj rfl rfl rfl rfl (bi (by assumption)) (Enc.len _)) ?_
  refine yF rfl rfl rfl rfl ?_
  refine yL rfl rfl rfl ?_
  refine aa rfl (bd rfl rfl (List.length_map _)) ?_
  refine aa rfl (ca rfl rfl rfl) ?_
  refine yN ?_
  dsimp only [St.put]
  refine K10 _ ?_
  refine am rfl (fun hc => ?_) (fun hc => ?_)
  ·replace hc := of_decide_eq_true hc
   obtain ⟨l, hn⟩ : ∃ x, c.lines[n]? = some x := cw (by omega)
   have hll := hcl.2.2 l (fu hn)
   refine av ?_
   refine K9 _ ?_
   refine yS fun _ K11 => ?_
   refine az ?_
   refine yS fun _ K12 => ?_
   refine yR ?_
   refine yA rfl rfl ?_
   refine yN ?_
   dsimp only [St.put]
   rw [ufy t k c.lines n l]
   refine K12 _ ?_
   refine az ?_
   refine cb 7 ?_
   refine zQ ?_
   refine ct ((ak G nx (.tip ((lz t k c.lines n l 0)).length 61 3))) zX ?_
   dsimp only
   refine cr (X := Nat) (fun w => w ≤ l.length) (fun w => l.length - w) (fun w => [(3, .list ((lz t k c.lines n l w).map cells) (.tip nx)), (6, .v (.int .i64 (w : Int)))]) (fun w G' => (ak G nx (.tip ((lz t k c.lines n l w)).length 61 3))) 0 rfl ?_ ?_ ?_ ?_ ?_ ?_
   ·exact Nat.zero_le _
   ·exact zF
   ·exact zX
   ·rintro w hI
    exact zL
   ·rintro w hI
    exact zH
   rintro w hW
   dsimp only at hW ⊢
   refine yS fun _ K13 => ?_
   refine yS fun _ K14 => ?_
   refine yR ?_
   refine yM rfl rfl ?_
   refine yF rfl rfl rfl rfl ?_
   refine yL rfl rfl rfl ?_
   refine yM rfl rfl ?_
   refine aa rfl (bj rfl rfl rfl rfl (bi (by assumption)) (Enc.len _)) ?_
   refine yF rfl rfl rfl rfl ?_
   refine yL rfl rfl rfl ?_
   refine yM rfl rfl ?_
   refine aa rfl (bj rfl rfl rfl rfl (bi (by assumption)) (Enc.len _)) ?_
   refine yL rfl rfl rfl ?_
   refine aa rfl (bd rfl rfl (List.length_map _)) ?_
   refine aa rfl (ca rfl rfl rfl) ?_
   refine yN ?_
   dsimp only [St.put]
   refine K14 _ ?_
   refine am rfl (fun hc => ?_) (fun hc => ?_)
   ·replace hc := of_decide_eq_true hc
    have hlen := ufz ht hk hn w
    refine av ?_
    refine K13 _ ?_
    refine yS fun _ K15 => ?_
    refine az ?_
    refine yR ?_
    refine yM rfl rfl ?_
    refine yM rfl rfl ?_
    refine yM rfl rfl ?_
    refine yM rfl rfl ?_
    refine aa rfl (g7 rfl rfl) ?_
    try dsimp only [St.put]
    refine ae rfl (dp rfl rfl rfl (by decide) (by decide) zR (by decide) ?_)
    try dsimp only [St.put]
    refine ae rfl (jr ([(⟨k, n, w⟩ : PlaceD)]) rfl rfl zG zE rfl rfl zA ?_ zA)
    refine yA rfl rfl ?_
    refine yN ?_
    dsimp only [St.put]
    refine K15 _ ?_
    refine yR ?_
    refine yM rfl rfl ?_
    refine aa rfl (bl rfl rfl rfl (by omega)) ?_
    refine yA rfl rfl ?_
    refine yN ?_
    dsimp only [St.put]
    rw [uop (w := w) (by omega)]
    exact ⟨w + 1, by omega, by omega, ⟨⟨rfl, rfl⟩, zF, zB, zN, zX⟩⟩
   try replace hc := of_decide_eq_false hc
   refine cn ?_
   refine K11 _ ?_
   refine yR ?_
   refine yM rfl rfl ?_
   refine aa rfl (bl rfl rfl rfl (by omega)) ?_
   refine yA rfl rfl ?_
   refine yN ?_
   dsimp only [St.put]
   rw [uoq (k := k) (w := w) hn (by omega)]
   exact ⟨n + 1, by omega, by omega, ⟨⟨rfl, rfl⟩, zF, zB, zN, zX⟩⟩
  try replace hc := of_decide_eq_false hc
  refine cn ?_
  refine K7 _ ?_
  refine yR ?_
  refine yM rfl rfl ?_
  refine aa rfl (bl rfl rfl rfl (by omega)) ?_
  refine yA rfl rfl ?_
  refine yN ?_
  dsimp only [St.put]
  rw [uf1 (n := n) hk (by omega)]
  exact ⟨k + 1, by omega, by omega, ⟨⟨rfl, rfl⟩, zF, zB, zN, zX⟩⟩
 try replace hc := of_decide_eq_false hc
 refine cn ?_
 refine K3 _ ?_
 refine yS fun _ K16 => ?_
 refine yR ?_
 refine yM rfl rfl ?_
 refine yA rfl rfl ?_
 refine yN ?_
 dsimp only [St.put]
 rw [f5 (show t.length ≤ k by omega)]
 refine K16 _ ?_
 refine ar ?_
 refine pi rfl (d7 (by constructor)) zN zS ?_
 exact zW
end Go.Proofs.YtbbdginipiljdaaGreatDoor
namespace Go.AB
/-- a sum -/
def sm : Nat → (Nat → Int) → Int
 | 0, _ => 0
 | n + 1, g => sm n g + g n
theorem ms : ∀ {n : Nat} {g h : Nat → Int}, (∀ i, i < n → g i ≤ h i) → sm n g ≤ sm n h
 | 0, _, _, _ => Int.le_refl _
 | n + 1, g, h, H => by
  have h1 := ms (n := n) fun i hi => H i (by omega)
  have h2 := H n (by omega)
  simp only [sm]; omega
theorem ia : ∀ {n : Nat} {g h : Nat → Int}, (∀ i, i < n → g i = h i) → sm n g = sm n h
 | 0, _, _, _ => rfl
 | n + 1, g, h, H => by
  have h1 := ia (n := n) fun i hi => H i (by omega)
  have h2 := H n (by omega)
  simp only [sm]; omega
theorem nm : ∀ (n : Nat) (g h : Nat → Int), sm n (fun i => g i + h i) = sm n g + sm n h
 | 0, _, _ => rfl
 | n + 1, g, h => by have := nm n g h; simp only [sm]; omega
theorem ow : ∀ (n : Nat) (g h : Nat → Int), sm n (fun i => g i - h i) = sm n g - sm n h
 | 0, _, _ => rfl
 | n + 1, g, h => by have := ow n g h; simp only [sm]; omega
theorem l6 : ∀ n : Nat, sm n (fun _ => 0) = 0
 | 0 => rfl
 | n + 1 => by have := l6 n; simp only [sm]; omega
theorem ve {n : Nat} {g : Nat → Int} (H : ∀ i, i < n → 0 ≤ g i) : 0 ≤ sm n g := by
 have := ms (g := fun _ => 0) H
 rwa [l6] at this
theorem ox : ∀ {n k : Nat} (_ : k < n) (v : Int), sm n (fun i => bif decide (i = k) then v else 0) = v
 | 0, _, h, _ => absurd h (Nat.not_lt_zero _)
 | n + 1, k, h, v => by
  simp only [sm]
  by_cases e : n = k
  ·subst e
   rw [ia (h := fun _ => 0) (fun i hi => by rw [decide_eq_false (by omega)]; rfl), l6, decide_eq_true rfl]
   simp
  ·rw [ox (n := n) (by omega) v, decide_eq_false e]
   simp
theorem ubc : ∀ (n m : Nat) (g : Nat → Nat → Int), sm n (fun i => sm m (g i)) = sm m (fun j => sm n fun i => g i j)
 | 0, m, g => by simp only [sm]; exact (l6 m).symm
 | n + 1, m, g => by
  have := ubc n m g
  simp only [sm]
  rw [nm, this]
theorem ubd {n k : Nat} {g : Nat → Int} (hk : k < n) (H : ∀ i, i < n → 0 ≤ g i) : g k ≤ sm n g := by
 have h1 := ms (n := n) (g := fun i => bif decide (i = k) then g k else 0) (h := g) fun i hi => by
  by_cases e : i = k
  ·subst e; simp
  ·rw [decide_eq_false e]; exact H i hi
 rwa [ox hk] at h1

/-- pages, each with a first and a second reader, or one of them, or none -/
structure Net where
 nF : Nat
 nr : Nat
 np : Nat
 fr : Nat → Option Nat
 sc : Nat → Option Nat
structure Net.Ok (N : Net) : Prop where
 le : N.nF ≤ N.nr
 fr : ∀ j i, N.fr j = some i → i < N.nF
 sc : ∀ j i, N.sc j = some i → N.nF ≤ i ∧ i < N.nr
def ob (S : Nat → Bool) : Option Nat → Bool
 | none => false
 | some i => S i
def Net.hit (N : Net) (S : Nat → Bool) (j : Nat) : Bool := ob S (N.fr j) || ob S (N.sc j)
/-- who reads a page -/
def Net.by (N : Net) (j i : Nat) : Bool := decide (N.fr j = some i) || decide (N.sc j = some i)
/-- what a set of readers proves -/
def Net.f (N : Net) (R C : Nat → Int) (S : Nat → Bool) : Int := sm N.nr (fun i => bif S i then R i else 0) + sm N.np (fun j => bif N.hit S j then 0 else C j)
/-- what may remain -/
structure Net.Feas (N : Net) (R C y : Nat → Int) : Prop where
 page : ∀ j, j < N.np → 0 ≤ y j ∧ y j ≤ C j
 rd : ∀ i, i < N.nr → sm N.np (fun j => bif N.by j i then y j else 0) ≤ R i
section
variable {N : Net} {R C : Nat → Int}
theorem Net.Ok.by_lt (h : N.Ok) {j i : Nat} (hb : N.by j i = true) : i < N.nr := by
 simp only [Net.by, Bool.or_eq_true, decide_eq_true_eq] at hb
 rcases hb with e | e
 ·have := h.fr j i e; have := h.le; omega
 ·exact (h.sc j i e).2
theorem Net.hit_iff {S : Nat → Bool} {j : Nat} : N.hit S j = true ↔ ∃ i, N.by j i = true ∧ S i = true := by
 unfold Net.hit Net.by
 constructor
 ·intro h
  rw [Bool.or_eq_true] at h
  rcases h with h | h
  ·cases e : N.fr j with
   | none => rw [e] at h; cases h
   | some i => rw [e] at h; exact ⟨i, by simp, h⟩
  ·cases e : N.sc j with
   | none => rw [e] at h; cases h
   | some i => rw [e] at h; exact ⟨i, by simp, h⟩
 ·rintro ⟨i, h1, h2⟩
  simp only [Bool.or_eq_true, decide_eq_true_eq] at h1 ⊢
  rcases h1 with e | e
  ·rw [e]; exact .inl h2
  ·rw [e]; exact .inr h2
theorem Net.f_congr (hN : N.Ok) {S S' : Nat → Bool} (h : ∀ i, i < N.nr → S i = S' i) : N.f R C S = N.f R C S' := by
 have h2 : ∀ j, N.hit S j = N.hit S' j := fun j => by
  rw [Bool.eq_iff_iff, Net.hit_iff, Net.hit_iff]
  exact ⟨fun ⟨i, q1, q2⟩ => ⟨i, q1, (h i (hN.by_lt q1)) ▸ q2⟩, fun ⟨i, q1, q2⟩ => ⟨i, q1, (h i (hN.by_lt q1)).symm ▸ q2⟩⟩
 have e1 : sm N.nr (fun i => bif S i then R i else 0) = sm N.nr (fun i => bif S' i then R i else 0) := ia fun i hi => by rw [h i hi]
 have e2 : sm N.np (fun j => bif N.hit S j then 0 else C j) = sm N.np (fun j => bif N.hit S' j then 0 else C j) := ia fun j _ => by rw [h2 j]
 unfold Net.f
 rw [e1, e2]
/-- no more remains than any readers prove -/
theorem Net.Feas.le {y : Nat → Int} (hN : N.Ok) (h : N.Feas R C y) (S : Nat → Bool) : sm N.np y ≤ N.f R C S := by
 have h1 : sm N.np (fun j => bif N.hit S j then y j else 0) ≤ sm N.nr (fun i => bif S i then R i else 0) := by
  have h2 : sm N.nr (fun i => sm N.np fun j => bif S i then (bif N.by j i then y j else 0) else 0) ≤ sm N.nr (fun i => bif S i then R i else 0) := ms fun i hi => by
   cases hS : S i
   ·simp only [cond_false, l6]; exact Int.le_refl _
   ·simp only [cond_true]; exact h.rd i hi
  refine Int.le_trans ?_ h2
  rw [ubc]
  refine ms fun j hj => ?_
  have hy := (h.page j hj).1
  have hnn : ∀ i, i < N.nr → 0 ≤ (bif S i then (bif N.by j i then y j else 0) else 0) := fun i _ => by
   cases S i <;> cases N.by j i <;> simp [hy]
  cases hh : N.hit S j
  ·exact ve hnn
  ·obtain ⟨i, q1, q2⟩ := Net.hit_iff.1 hh
   have := ubd (hN.by_lt q1) hnn
   simpa [q1, q2] using this
 have h3 : sm N.np (fun j => bif N.hit S j then 0 else y j) ≤ sm N.np (fun j => bif N.hit S j then 0 else C j) := ms fun j hj => by
  cases N.hit S j
  ·exact (h.page j hj).2
  ·exact Int.le_refl _
 have h4 : sm N.np y = sm N.np (fun j => bif N.hit S j then y j else 0) + sm N.np (fun j => bif N.hit S j then 0 else y j) := by
  rw [← nm]
  exact ia fun j _ => by cases N.hit S j <;> simp
 unfold Net.f
 omega
/-- two sets of readers, crossed -/
def mf (nF : Nat) (S T : Nat → Bool) (i : Nat) : Bool := bif decide (i < nF) then S i || T i else S i && T i
def me (nF : Nat) (S T : Nat → Bool) (i : Nat) : Bool := bif decide (i < nF) then S i && T i else S i || T i
theorem Net.cross (hN : N.Ok) (hC : ∀ j, j < N.np → 0 ≤ C j) (S T : Nat → Bool) : N.f R C (mf N.nF S T) + N.f R C (me N.nF S T) ≤ N.f R C S + N.f R C T := by
 have h1 : sm N.nr (fun i => bif mf N.nF S T i then R i else 0) + sm N.nr (fun i => bif me N.nF S T i then R i else 0) = sm N.nr (fun i => bif S i then R i else 0) + sm N.nr (fun i => bif T i then R i else 0) := by
  rw [← nm, ← nm]
  refine ia fun i _ => ?_
  unfold mf me
  cases decide (i < N.nF) <;> cases S i <;> cases T i <;> simp
 have h2 : sm N.np (fun j => bif N.hit (mf N.nF S T) j then 0 else C j) + sm N.np (fun j => bif N.hit (me N.nF S T) j then 0 else C j) ≤ sm N.np (fun j => bif N.hit S j then 0 else C j) + sm N.np (fun j => bif N.hit T j then 0 else C j) := by
  rw [← nm, ← nm]
  refine ms fun j hj => ?_
  have hc := hC j hj
  have e1 : ∀ U V : Nat → Bool, ob (mf N.nF U V) (N.fr j) = (ob U (N.fr j) || ob V (N.fr j)) := fun U V => by
   cases e : N.fr j with
   | none => rfl
   | some i => simp only [ob, mf, decide_eq_true (hN.fr j i e), cond_true]
  have e2 : ∀ U V : Nat → Bool, ob (me N.nF U V) (N.fr j) = (ob U (N.fr j) && ob V (N.fr j)) := fun U V => by
   cases e : N.fr j with
   | none => rfl
   | some i => simp only [ob, me, decide_eq_true (hN.fr j i e), cond_true]
  have e3 : ∀ U V : Nat → Bool, ob (mf N.nF U V) (N.sc j) = (ob U (N.sc j) && ob V (N.sc j)) := fun U V => by
   cases e : N.sc j with
   | none => rfl
   | some i => have := hN.sc j i e; simp only [ob, mf, decide_eq_false (show ¬ i < N.nF by omega), cond_false]
  have e4 : ∀ U V : Nat → Bool, ob (me N.nF U V) (N.sc j) = (ob U (N.sc j) || ob V (N.sc j)) := fun U V => by
   cases e : N.sc j with
   | none => rfl
   | some i => have := hN.sc j i e; simp only [ob, me, decide_eq_false (show ¬ i < N.nF by omega), cond_false]
  simp only [Net.hit, e1, e2, e3, e4]
  cases ob S (N.fr j) <;> cases ob T (N.fr j) <;> cases ob S (N.sc j) <;> cases ob T (N.sc j) <;> simp <;> omega
 unfold Net.f
 omega
/-- so much less for the readers of a page, and nothing more on it -/
def Net.lessR (N : Net) (R : Nat → Int) (j : Nat) (n : Int) (i : Nat) : Int := bif N.by j i then R i - n else R i
def dq (C : Nat → Int) (j k : Nat) : Int := bif decide (k = j) then 0 else C k
def cnt (S : Nat → Bool) (o : Option Nat) (n : Int) : Int := bif ob S o then n else 0
theorem Net.f_less (hN : N.Ok) {j : Nat} (hj : j < N.np) (n : Int) (S : Nat → Bool) : N.f (N.lessR R j n) (dq C j) S = N.f R C S - cnt S (N.fr j) n - cnt S (N.sc j) n - (bif N.hit S j then 0 else C j) := by
 have h1 : sm N.np (fun k => bif N.hit S k then 0 else dq C j k) = sm N.np (fun k => bif N.hit S k then 0 else C k) - (bif N.hit S j then 0 else C j) := by
  have := ox hj (bif N.hit S j then 0 else C j)
  rw [← this, ← ow]
  refine ia fun k _ => ?_
  by_cases e : k = j
  ·subst e; simp [dq]
  ·simp [dq, e]
 have h2 : ∀ o : Option Nat, (∀ i, o = some i → i < N.nr) → sm N.nr (fun i => bif decide (o = some i) then (bif S i then n else 0) else 0) = cnt S o n := fun o ho => by
  cases o with
  | none => simp only [cnt, ob, cond_false]; rw [ia (h := fun _ => 0) (fun i _ => by simp), l6]
  | some k =>
   have := ox (ho k rfl) (bif S k then n else 0)
   rw [ia (h := fun i => bif decide (i = k) then (bif S k then n else 0) else 0)]
   ·exact this
   ·intro i _
    by_cases e : i = k
    ·subst e; simp
    ·simp [e, Ne.symm e]
 have h3 : sm N.nr (fun i => bif S i then N.lessR R j n i else 0) = sm N.nr (fun i => bif S i then R i else 0) - cnt S (N.fr j) n - cnt S (N.sc j) n := by
  rw [← h2 (N.fr j) (fun i e => by have := hN.fr j i e; have := hN.le; omega), ← h2 (N.sc j) (fun i e => (hN.sc j i e).2), ← ow, ← ow]
  refine ia fun i _ => ?_
  unfold Net.lessR Net.by
  have hx : ¬ (N.fr j = some i ∧ N.sc j = some i) := fun ⟨q1, q2⟩ => by have := hN.fr j i q1; have := (hN.sc j i q2).1; omega
  by_cases q1 : N.fr j = some i
  ·have q2 : ¬ N.sc j = some i := fun q2 => hx ⟨q1, q2⟩
   cases S i <;> simp [q1, q2]
  ·by_cases q2 : N.sc j = some i
   ·cases S i <;> simp [q1, q2]
   ·cases S i <;> simp [q1, q2]
 unfold Net.f
 rw [h1, h3]
 omega
/-- the least of some numbers, as it is looked for -/
def lm (g : Nat → Int) : Nat → Int
 | 0 => g 0
 | k + 1 => min (lm g k) (g k)
theorem udb {g : Nat → Int} : ∀ {k s : Nat}, s < k ∨ s = 0 → lm g k ≤ g s
 | 0, s, h => by
  obtain rfl : s = 0 := by omega
  exact Int.le_refl _
 | k + 1, s, h => by
  by_cases e : s = k
  ·subst e; exact Int.min_le_right _ _
  ·have := udb (g := g) (k := k) (s := s) (by omega)
   exact Int.le_trans (Int.min_le_left _ _) this
theorem y6 {g : Nat → Int} : ∀ k : Nat, ∃ s, (s < k ∨ s = 0) ∧ lm g k = g s
 | 0 => ⟨0, .inr rfl, rfl⟩
 | k + 1 => by
  obtain ⟨s, h1, h2⟩ := y6 (g := g) k
  by_cases e : lm g k ≤ g k
  ·exact ⟨s, by omega, by rw [lm, Int.min_eq_left e, h2]⟩
  ·exact ⟨k, by omega, by rw [lm, Int.min_eq_right (by omega)]⟩
/-- a set as a number -/
def pn (S : Nat → Bool) : Nat → Nat
 | 0 => 0
 | n + 1 => pn S n ||| (bif S n then 2 ^ n else 0)
theorem ufe (S : Nat → Bool) : ∀ n, pn S n < 2 ^ n
 | 0 => by simp [pn]
 | n + 1 => by
  have h := ufe S n
  have h2 : 2 ^ n < 2 ^ (n + 1) := Nat.pow_lt_pow_right (by omega) (by omega)
  unfold pn
  refine Nat.or_lt_two_pow (by omega) ?_
  cases S n
  ·exact Nat.two_pow_pos _
  ·exact h2
theorem uff (S : Nat → Bool) : ∀ n i, (pn S n).testBit i = (decide (i < n) && S i)
 | 0, i => by simp [pn]
 | n + 1, i => by
  have h := uff S n i
  unfold pn
  rw [Nat.testBit_or, h]
  by_cases e : i = n
  ·subst e
   cases hS : S i <;> simp
  ·have e2 : decide (i < n + 1) = decide (i < n) := by rw [decide_eq_decide]; omega
   rw [e2]
   cases hS : S n
   ·simp
   ·simp only [cond_true, Nat.testBit_two_pow]
    rw [decide_eq_false (Ne.symm e), Bool.or_false]
def Net.most (N : Net) (R C : Nat → Int) : Int := lm (fun s => N.f R C fun i => s.testBit i) (2 ^ N.nr)
theorem Net.most_le (hN : N.Ok) (S : Nat → Bool) : N.most R C ≤ N.f R C S := by
 have h := udb (g := fun s => N.f R C fun i => s.testBit i) (k := 2 ^ N.nr) (s := pn S N.nr) (.inl (ufe S _))
 refine Int.le_trans h (Int.le_of_eq (Net.f_congr hN fun i hi => ?_))
 rw [uff, decide_eq_true hi, Bool.true_and]
theorem Net.most_get (N : Net) (R C : Nat → Int) : ∃ S : Nat → Bool, N.most R C = N.f R C S := by
 obtain ⟨s, _, h⟩ := y6 (g := fun s => N.f R C fun i => s.testBit i) (2 ^ N.nr)
 exact ⟨fun i => s.testBit i, h⟩
def n3 (n : Int) (R : Nat → Int) : Option Nat → Int
 | none => n
 | some i => min n (R i)
/-- the most on one page -/
def Net.alone (N : Net) (R C : Nat → Int) (j : Nat) : Int := n3 (n3 (C j) R (N.fr j)) R (N.sc j)
theorem uda {n m : Int} {o : Option Nat} : m ≤ n3 n R o ↔ m ≤ n ∧ ∀ i, o = some i → m ≤ R i := by
 cases o with
 | none => simp [n3]
 | some k => simp only [n3, Int.le_min, Option.some.injEq, forall_eq']
theorem Net.le_alone {j : Nat} {m : Int} : m ≤ N.alone R C j ↔ m ≤ C j ∧ ∀ i, N.by j i = true → m ≤ R i := by
 unfold Net.alone Net.by
 rw [uda, uda]
 simp only [Bool.or_eq_true, decide_eq_true_eq]
 exact ⟨fun ⟨⟨h1, h2⟩, h3⟩ => ⟨h1, fun i hi => hi.elim (h2 i) (h3 i)⟩, fun ⟨h1, h2⟩ => ⟨⟨h1, fun i hi => h2 i (.inl hi)⟩, fun i hi => h2 i (.inr hi)⟩⟩
/-- what remains, and so much less of it -/
theorem Net.less_le (hN : N.Ok) {j : Nat} (hj : j < N.np) {n : Int} (h0 : 0 ≤ n) (hn : n ≤ C j) : n + N.most (N.lessR R j n) (dq C j) ≤ N.most R C := by
 obtain ⟨S, hS⟩ := N.most_get R C
 have h1 := Net.most_le (R := N.lessR R j n) (C := dq C j) hN S
 rw [Net.f_less hN hj] at h1
 rw [hS]
 cases e : N.hit S j
 ·rw [e] at h1
  have e2 := e
  unfold Net.hit at e2
  rw [Bool.or_eq_false_iff] at e2
  simp only [cnt, e2.1, e2.2, cond_false] at h1
  omega
 ·rw [e] at h1
  unfold Net.hit at e
  rw [Bool.or_eq_true] at e
  unfold cnt at h1
  rcases e with q | q
  ·rw [q] at h1
   cases e2 : ob S (N.sc j) <;> rw [e2] at h1 <;> simp only [cond_true, cond_false] at h1 <;> omega
  ·rw [q] at h1
   cases e2 : ob S (N.fr j) <;> rw [e2] at h1 <;> simp only [cond_true, cond_false] at h1 <;> omega
/-- of each page there is a worst number of errors -/
theorem Net.greedy (hN : N.Ok) (hR : ∀ i, i < N.nr → 0 ≤ R i) (hC : ∀ j, j < N.np → 0 ≤ C j) {j : Nat} (hj : j < N.np) : ∃ n : Int, 0 ≤ n ∧ n ≤ N.alone R C j ∧ N.most R C ≤ n + N.most (N.lessR R j n) (dq C j) := by
 -- the largest number that every set allows
 have hcj := hC j hj
 have hal : 0 ≤ N.alone R C j := Net.le_alone.2 ⟨hcj, fun i hi => hR i (hN.by_lt hi)⟩
 have key : ∀ n : Int, 0 ≤ n → n ≤ N.alone R C j → (∀ S, ob S (N.fr j) = true → ob S (N.sc j) = true → N.most R C ≤ N.f R C S - n) → (n = N.alone R C j ∨ ∃ S, ob S (N.fr j) = true ∧ ob S (N.sc j) = true ∧ N.f R C S - n = N.most R C) → N.most R C ≤ n + N.most (N.lessR R j n) (dq C j) := by
  intro n h0 h1 h2 h3
  obtain ⟨S, hS⟩ := N.most_get (N.lessR R j n) (dq C j)
  rw [hS, Net.f_less hN hj]
  have hm := Net.most_le (R := R) (C := C) hN S
  cases e1 : ob S (N.fr j) <;> cases e2 : ob S (N.sc j)
  ·have e : N.hit S j = false := by simp [Net.hit, e1, e2]
   simp only [cnt, e1, e2, e, cond_false]
   -- no reader of the page is in the set
   rcases h3 with h3 | ⟨T, t1, t2, t3⟩
   ·-- as1 much as1 can be: the page itself, or a reader
    by_cases hc : n = C j
    ·omega
    ·have h4 := (Net.le_alone.1 h1).1
     obtain ⟨i, hi, hri⟩ : ∃ i, N.by j i = true ∧ R i = n := by
      refine Classical.byContradiction fun hno => ?_
      have : n + 1 ≤ N.alone R C j := Net.le_alone.2 ⟨by omega, fun i hi => by
       have q1 := (Net.le_alone.1 h1).2 i hi
       have q2 : R i ≠ n := fun q => hno ⟨i, hi, q⟩
       omega⟩
      omega
     -- the set with that reader
     have h5 := Net.most_le (R := R) (C := C) hN (fun k => S k || decide (k = i))
     have h6 : N.f R C (fun k => S k || decide (k = i)) ≤ N.f R C S + R i - C j := by
      have g1 : sm N.nr (fun k => bif (S k || decide (k = i)) then R k else 0) ≤ sm N.nr (fun k => bif S k then R k else 0) + R i := by
       have := ox (hN.by_lt hi) (R i)
       rw [← this, ← nm]
       refine ms fun k hk => ?_
       have := hR k hk
       by_cases q : k = i
       ·subst q; cases S k <;> simp <;> omega
       ·cases S k <;> simp [q]
      have g2 : sm N.np (fun k => bif N.hit (fun k => S k || decide (k = i)) k then 0 else C k) ≤ sm N.np (fun k => bif N.hit S k then 0 else C k) - C j := by
       have := ox hj (C j)
       rw [← this, ← ow]
       refine ms fun k hk => ?_
       have hck := hC k hk
       have mono : N.hit S k = true → N.hit (fun k => S k || decide (k = i)) k = true := fun q => by
        obtain ⟨x, x1, x2⟩ := Net.hit_iff.1 q
        exact Net.hit_iff.2 ⟨x, x1, by simp [x2]⟩
       by_cases q : k = j
       ·subst q
        rw [show N.hit (fun k => S k || decide (k = i)) k = true from Net.hit_iff.2 ⟨i, hi, by simp⟩, e]
        simp
       ·rw [decide_eq_false q]
        cases q1 : N.hit S k
        ·cases N.hit (fun k => S k || decide (k = i)) k <;> simp <;> omega
        ·rw [mono q1]; simp
      unfold Net.f
      dsimp only
      omega
     omega
   ·-- crossed with a set that has both
    have hx := Net.cross (R := R) (C := dq C j) hN (fun k hk => by unfold dq; cases decide (k = j) <;> simp; exact hC k hk) S T
    have hsub : ∀ U : Nat → Bool, N.f R (dq C j) U = N.f R C U - (bif N.hit U j then 0 else C j) := fun U => by
     have := Net.f_less (R := R) (C := C) hN hj 0 U
     have e0 : N.lessR R j 0 = R := by funext i; unfold Net.lessR; cases N.by j i <;> simp
     rw [e0] at this
     rw [this]
     unfold cnt
     cases ob U (N.fr j) <;> cases ob U (N.sc j) <;> simp
    rw [hsub, hsub, hsub, hsub, e, show N.hit T j = true by simp [Net.hit, t1]] at hx
    obtain ⟨a, ha⟩ : ∃ a, N.fr j = some a := by cases q : N.fr j with
     | none => rw [q] at t1; cases t1
     | some a => exact ⟨a, rfl⟩
    obtain ⟨b, hb⟩ : ∃ b, N.sc j = some b := by cases q : N.sc j with
     | none => rw [q] at t2; cases t2
     | some b => exact ⟨b, rfl⟩
    rw [ha] at t1
    rw [hb] at t2
    have hA : N.hit (mf N.nF S T) j = true := by
     simp only [Net.hit, ha, ob, mf, decide_eq_true (hN.fr j a ha), cond_true]
     rw [show T a = true from t1]; simp
    have hB : N.hit (me N.nF S T) j = true := by
     have := hN.sc j b hb
     simp only [Net.hit, hb, ob, me, decide_eq_false (show ¬ b < N.nF by omega), cond_false]
     rw [show T b = true from t2]; simp
    rw [hA, hB] at hx
    simp only [cond_true, cond_false] at hx
    have q1 := Net.most_le (R := R) (C := C) hN (mf N.nF S T)
    have q2 := Net.most_le (R := R) (C := C) hN (me N.nF S T)
    omega
  ·have e : N.hit S j = true := by simp [Net.hit, e2]
   simp only [cnt, e1, e2, e, cond_false, cond_true]
   omega
  ·have e : N.hit S j = true := by simp [Net.hit, e1]
   simp only [cnt, e1, e2, e, cond_false, cond_true]
   omega
  ·have e : N.hit S j = true := by simp [Net.hit, e1]
   simp only [cnt, e1, e2, e, cond_true]
   have := h2 S e1 e2
   omega
 by_cases hb : ∀ S, ob S (N.fr j) = true → ob S (N.sc j) = true → N.most R C ≤ N.f R C S - N.alone R C j
 ·exact ⟨_, hal, Int.le_refl _, key _ hal (Int.le_refl _) hb (.inl rfl)⟩
 ·-- the rj of those that have both
  have : ∃ m : Int, (∃ S, ob S (N.fr j) = true ∧ ob S (N.sc j) = true ∧ N.f R C S = m) ∧ ∀ S, ob S (N.fr j) = true → ob S (N.sc j) = true → m ≤ N.f R C S := by
   obtain ⟨S0, s1, s2⟩ : ∃ S, ob S (N.fr j) = true ∧ ob S (N.sc j) = true := by
    refine Classical.byContradiction fun hno => hb fun S h1 h2 => absurd ⟨S, h1, h2⟩ hno
   have hlow : ∀ S, ob S (N.fr j) = true → ob S (N.sc j) = true → N.most R C ≤ N.f R C S := fun S _ _ => Net.most_le hN S
   generalize hd : (N.f R C S0 - N.most R C).toNat = d
   induction d using Nat.strongRecOn generalizing S0 with
   | _ d ih =>
    by_cases hmin : ∀ S, ob S (N.fr j) = true → ob S (N.sc j) = true → N.f R C S0 ≤ N.f R C S
    ·exact ⟨_, ⟨S0, s1, s2, rfl⟩, hmin⟩
    ·obtain ⟨S1, hS1⟩ := Classical.not_forall.1 hmin
     obtain ⟨t1, hS2⟩ := Classical.not_imp.1 hS1
     obtain ⟨t2, hS3⟩ := Classical.not_imp.1 hS2
     have hl1 := hlow S1 t1 t2
     have hl0 := hlow S0 s1 s2
     exact ih _ (by omega) S1 t1 t2 rfl
  obtain ⟨m, ⟨S, q1, q2, q3⟩, q4⟩ := this
  have hm := Net.most_le (R := R) (C := C) hN S
  have hlt : m - N.most R C < N.alone R C j := by
   refine Classical.byContradiction fun hno => hb fun T t1 t2 => ?_
   have := q4 T t1 t2
   omega
  exact ⟨m - N.most R C, by omega, by omega, key _ (by omega) (by omega) (fun T t1 t2 => by have := q4 T t1 t2; omega) (.inr ⟨S, q1, q2, by omega⟩)⟩
end
end Go.AB
namespace Go.PB
structure bp where
 id : Int
 miss : Int
 deriving DecidableEq
structure aq where
 fr : Int
 to : Int
 fst : Int
 snd : Int
 found : List PlaceD
 well : List PlaceD
 deriving DecidableEq
structure af where
 text : ai
 firsts : List bp
 seconds : List bp
 pages : List aq
 deriving DecidableEq
/-- proofs at work -/
structure ci where
 p : af
 words : List Int
 all : List (List PlaceD)
 both : List (List PlaceD)
structure bn where
 lo : Int
 hi : Int
 deriving DecidableEq
end Go.PB
namespace Go.AB
open Go Go.RowKit
open Go.AB.Enc (cells)
open Go.PB (aw ai PlaceD bc bg bf bp aq af ci bn)
instance : Enc bp := ⟨fun x => [.v (.int .i64 x.id), .v (.int .i64 x.miss)], 2, fun _ => rfl, fun m x c h => by
 simp only [List.mem_cons, List.not_mem_nil, or_false] at h; rcases h with rfl | rfl <;> exact .v, fun x c h => by
 simp only [List.mem_cons, List.not_mem_nil, or_false] at h; rcases h with rfl | rfl <;> rfl⟩
instance : Enc bn := ⟨fun x => [.v (.int .i64 x.lo), .v (.int .i64 x.hi)], 2, fun _ => rfl, fun m x c h => by
 simp only [List.mem_cons, List.not_mem_nil, or_false] at h; rcases h with rfl | rfl <;> exact .v, fun x c h => by
 simp only [List.mem_cons, List.not_mem_nil, or_false] at h; rcases h with rfl | rfl <;> rfl⟩
instance : Enc aq := ⟨fun x => [.v (.int .i64 x.fr), .v (.int .i64 x.to), .v (.int .i64 x.fst), .v (.int .i64 x.snd), lst x.found, lst x.well], 6, fun _ => rfl, fun m x c h => by
 simp only [List.mem_cons, List.not_mem_nil, or_false] at h
 rcases h with rfl | rfl | rfl | rfl | rfl | rfl
 ·exact .v
 ·exact .v
 ·exact .v
 ·exact .v
 ·exact br m _
 ·exact br m _, fun x c h => by
 simp only [List.mem_cons, List.not_mem_nil, or_false] at h; rcases h with rfl | rfl | rfl | rfl | rfl | rfl <;> rfl⟩
instance : Enc af := ⟨fun x => [lst x.text, lst x.firsts, lst x.seconds, lst x.pages], 4, fun _ => rfl, fun m x c h => by
 simp only [List.mem_cons, List.not_mem_nil, or_false] at h
 rcases h with rfl | rfl | rfl | rfl
 ·exact br m _
 ·exact br m _
 ·exact br m _
 ·exact br m _, fun x c h => by
 simp only [List.mem_cons, List.not_mem_nil, or_false] at h; rcases h with rfl | rfl | rfl | rfl <;> rfl⟩
/-! ### Lines of a text -/
/-- the number of a chapter's first line -/
def fm (t : ai) (k : Nat) : Nat := ((t.take k).map fun c => c.lines.length).sum
theorem ua9 (t : ai) : fm t 0 = 0 := by simp [fm]
theorem sn {t : ai} {k : Nat} {c : aw} (h : t[k]? = some c) : fm t (k + 1) = fm t k + c.lines.length := by
 unfold fm
 rw [List.take_add_one, h]
 simp
def l9 (t : ai) : Nat := fm t t.length
/-- the number of the line of a place -/
def p8 (t : ai) (q : PlaceD) : Int := q.ln + (fm t q.ch.toNat : Int)
def fe (t : ai) (x : aq) (q : PlaceD) : Bool := inB (p8 t q) x.fr x.to
/-! ### Valid proofs -/
def mj (a b : PlaceD) : Bool := decide (eu (cv a) (cv b) < 0)
/-- a place of a list may stand where it does -/
def jc (t : ai) (x : aq) (l : List PlaceD) (i : Nat) : Bool := match l[i]? with
 | none => true
 | some q => fh t q && fe t x q && (decide (i = 0) || match l[i - 1]? with | none => true | some a => mj a q)
def dn (t : ai) (x : aq) (l : List PlaceD) (n : Nat) : Bool := (List.range n).all (jc t x l)
theorem gq (t : ai) (x : aq) (l : List PlaceD) (n : Nat) : dn t x l (n + 1) = (dn t x l n && jc t x l n) := by
 unfold dn
 rw [List.range_succ, List.all_append]
 simp
def gy (t : ai) (x : aq) (r : Int) (l : List PlaceD) : Bool := (decide (0 ≤ r) || decide (l = [])) && dn t x l l.length
def gi (r : bp) : Bool := inB r.id 0 9999 && inB r.miss 0 90
def jh (p : af) : Bool := decide (p.firsts.length ≤ 3) && decide (p.seconds.length ≤ 3) && (p.firsts ++ p.seconds).all gi && decide ((p.firsts ++ p.seconds).map (·.id)).Nodup
def lk (p : af) (last : Int) (x : aq) : Bool := decide (last < x.fr) && decide (x.fr ≤ x.to) && decide (x.to < (l9 p.text : Int)) && inB x.fst (-1) ((p.firsts.length : Int) - 1) && gy p.text x x.fst x.found && inB x.snd (-1) ((p.seconds.length : Int) - 1) && gy p.text x x.snd x.well
/-- the last line ahead of a page -/
def g8 (l : List aq) : Nat → Int
 | 0 => -1
 | i + 1 => match l[i]? with | some x => x.to | none => -1
def s7 (p : af) (i : Nat) : Bool := match p.pages[i]? with
 | none => true
 | some x => lk p (g8 p.pages i) x
def px (p : af) (n : Nat) : Bool := (List.range n).all (s7 p)
theorem ucc (p : af) (n : Nat) : px p (n + 1) = (px p n && s7 p n) := by
 unfold px
 rw [List.range_succ, List.all_append]
 simp
def fy (p : af) : Bool := jh p && decide (p.pages.length ≤ 8) && px p p.pages.length
def cj (p : af) : Int := bif dg p.text then (bif fy p then 0 else 90) else 10
/-! ### What is found on a page -/
def dh (t : ai) (x : aq) : List PlaceD := (dc t).filter fun q => decide (q ∈ x.found) || decide (q ∈ x.well)
def dw (t : ai) (x : aq) : List PlaceD := (dc t).filter fun q => decide (q ∈ x.found) && decide (q ∈ x.well)
def ei (t : ai) (x : aq) : Nat := ((dc t).filter (fe t x)).length
/-! ### Bounds of readers -/
def dv (b : Bool) (x : aq) : Int := bif b then x.snd else x.fst
def da (b : Bool) (x : aq) : List PlaceD := bif b then x.well else x.found
def dj (p : af) (b : Bool) : List bp := bif b then p.seconds else p.firsts
def cc (l : List aq) (g : aq → Nat) : Nat := (l.map g).sum
theorem l4 {l : List aq} {k : Nat} {x : aq} {g : aq → Nat} (h : l[k]? = some x) : cc (l.take (k + 1)) g = cc (l.take k) g + g x := by
 unfold cc
 rw [List.take_add_one, h]
 simp
def c4 (b : Bool) (i : Int) (x : aq) : Nat := bif decide (dv b x = i) then (da b x).length else 0
def dm (t : ai) (b : Bool) (i : Int) (x : aq) : Nat := bif decide (dv b x = i) then (dh t x).length else 0
def kz (p : af) (b : Bool) (i : Nat) : Int := match (dj p b)[i]? with | some r => r.miss | none => 0
def jn (p : af) (b : Bool) (i : Nat) : Int := 100 * (cc p.pages (c4 b i) : Int) / (100 - kz p b i)
def k8 (p : af) (b : Bool) (i : Nat) : Int := jn p b i - (cc p.pages (dm p.text b i) : Int)
/-! ### What may remain -/
def bx (p : af) : Nat := p.firsts.length + p.seconds.length
def cm (p : af) (i : Nat) : Int := bif decide (i < p.firsts.length) then k8 p false i else k8 p true (i - p.firsts.length)
def ui (t : ai) (x : aq) : Int := (ei t x : Int) - ((dh t x).length : Int)
def g4 (p : af) : Bool := (List.range (bx p)).all fun i => decide (0 ≤ cm p i)
def bk (p : af) : Net where
 nF := p.firsts.length
 nr := bx p
 np := p.pages.length
 fr := fun j => match p.pages[j]? with | some x => (bif decide (0 ≤ x.fst) then some x.fst.toNat else none) | none => none
 sc := fun j => match p.pages[j]? with | some x => (bif decide (0 ≤ x.snd) then some (p.firsts.length + x.snd.toNat) else none) | none => none
def gx (l : List Int) (i : Nat) : Int := (l[i]?).getD 0
end Go.AB
namespace Go.AB
/-- so much on a page is the most of what loses nothing -/
structure Net.Pick (N : Net) (R C : Nat → Int) (j : Nat) (n : Int) : Prop where
 nn : 0 ≤ n
 le : n ≤ N.alone R C j
 ok : N.most R C ≤ n + N.most (N.lessR R j n) (dq C j)
 max : ∀ m, n < m → m ≤ N.alone R C j → ¬ N.most R C ≤ m + N.most (N.lessR R j m) (dq C j)
section
variable {N : Net} {R C : Nat → Int}
theorem Net.Pick.uniq {j : Nat} {n m : Int} (h : N.Pick R C j n) (k : N.Pick R C j m) : n = m := by
 rcases Int.lt_trichotomy n m with q | q | q
 ·exact absurd k.ok (h.max m q k.le)
 ·exact q
 ·exact absurd h.ok (k.max n q h.le)
theorem Net.pick_ex (hN : N.Ok) (hR : ∀ i, i < N.nr → 0 ≤ R i) (hC : ∀ j, j < N.np → 0 ≤ C j) {j : Nat} (hj : j < N.np) : ∃ n, N.Pick R C j n := by
 obtain ⟨n, h1, h2, h3⟩ := Net.greedy hN hR hC hj
 generalize hd : (N.alone R C j - n).toNat = d
 induction d using Nat.strongRecOn generalizing n with
 | _ d ih =>
  by_cases hmax : ∀ m, n < m → m ≤ N.alone R C j → ¬ N.most R C ≤ m + N.most (N.lessR R j m) (dq C j)
  ·exact ⟨n, h1, h2, h3, hmax⟩
  ·obtain ⟨m, hm⟩ := Classical.not_forall.1 hmax
   obtain ⟨q1, hm⟩ := Classical.not_imp.1 hm
   obtain ⟨q2, hm⟩ := Classical.not_imp.1 hm
   exact ih _ (by omega) m (by omega) q2 (Classical.not_not.1 hm) rfl
open Classical in
noncomputable def Net.pick (N : Net) (R C : Nat → Int) (j : Nat) : Int := if h : ∃ n, N.Pick R C j n then h.choose else 0
theorem Net.pick_spec {j : Nat} (h : ∃ n, N.Pick R C j n) : N.Pick R C j (N.pick R C j) := by
 unfold Net.pick
 rw [dif_pos h]
 exact h.choose_spec
theorem Net.pick_eq {j : Nat} {n : Int} (h : N.Pick R C j n) : N.pick R C j = n := (Net.pick_spec ⟨n, h⟩).uniq h
/-- what may remain ahead of a page, by the worst truth -/
noncomputable def Net.room (N : Net) (R C : Nat → Int) : Nat → (Nat → Int) × (Nat → Int)
 | 0 => (R, C)
 | i + 1 => (N.lessR (N.room R C i).1 i (N.pick (N.room R C i).1 (N.room R C i).2 i), dq (N.room R C i).2 i)
/-- the worst truth -/
noncomputable def Net.worst (N : Net) (R C : Nat → Int) (i : Nat) : Int := N.pick (N.room R C i).1 (N.room R C i).2 i
theorem Net.room_succ (i : Nat) : N.room R C (i + 1) = (N.lessR (N.room R C i).1 i (N.worst R C i), dq (N.room R C i).2 i) := rfl
structure Net.RoomOk (N : Net) (R C : Nat → Int) (i : Nat) : Prop where
 rnn : ∀ r, r < N.nr → 0 ≤ (N.room R C i).1 r
 cnn : ∀ j, j < N.np → 0 ≤ (N.room R C i).2 j
 all : N.most (N.room R C i).1 (N.room R C i).2 = N.most R C - sm i (N.worst R C)
 caps : ∀ j, (N.room R C i).2 j = bif decide (j < i) then 0 else C j
 rds : ∀ r, (N.room R C i).1 r = R r - sm i (fun j => bif N.by j r then N.worst R C j else 0)
theorem Net.room_ok (hN : N.Ok) (hR : ∀ i, i < N.nr → 0 ≤ R i) (hC : ∀ j, j < N.np → 0 ≤ C j) : ∀ i, i ≤ N.np → N.RoomOk R C i
 | 0, _ => ⟨hR, hC, by simp [Net.room, sm], fun j => by simp [Net.room], fun r => by simp [Net.room, sm]⟩
 | i + 1, hi => by
  have h := Net.room_ok hN hR hC i (by omega)
  have hp : N.Pick (N.room R C i).1 (N.room R C i).2 i (N.worst R C i) := Net.pick_spec (Net.pick_ex hN h.rnn h.cnn (by omega))
  have hal := Net.le_alone.1 hp.le
  have hle := Net.less_le (R := (N.room R C i).1) (C := (N.room R C i).2) hN (show i < N.np by omega) hp.nn hal.1
  have hok := hp.ok
  refine ⟨fun r hr => ?_, fun j hj => ?_, ?_, fun j => ?_, fun r => ?_⟩
  ·rw [Net.room_succ]
   show 0 ≤ N.lessR _ i _ r
   unfold Net.lessR
   cases hb : N.by i r
   ·exact h.rnn r hr
   ·have := hal.2 r hb
    simp only [cond_true]; omega
  ·rw [Net.room_succ]
   show 0 ≤ dq _ i j
   unfold dq
   cases decide (j = i)
   ·exact h.cnn j hj
   ·exact Int.le_refl _
  ·rw [Net.room_succ]
   have := h.all
   simp only [sm]
   show N.most (N.lessR _ i _) (dq _ i) = _
   omega
  ·rw [Net.room_succ]
   show dq _ i j = _
   unfold dq
   rw [h.caps j]
   by_cases e : j = i
   ·subst e; simp
   ·rw [decide_eq_false e, cond_false, show decide (j < i + 1) = decide (j < i) by rw [decide_eq_decide]; omega]
  ·rw [Net.room_succ]
   show N.lessR _ i _ r = _
   unfold Net.lessR
   rw [h.rds r]
   simp only [sm]
   cases N.by i r <;> simp <;> omega
theorem Net.worst_pick (hN : N.Ok) (hR : ∀ i, i < N.nr → 0 ≤ R i) (hC : ∀ j, j < N.np → 0 ≤ C j) {i : Nat} (hi : i < N.np) : N.Pick (N.room R C i).1 (N.room R C i).2 i (N.worst R C i) := by
 have h := Net.room_ok hN hR hC i (by omega)
 exact Net.pick_spec (Net.pick_ex hN h.rnn h.cnn hi)
theorem Net.most_nn (hR : ∀ i, i < N.nr → 0 ≤ R i) (hC : ∀ j, j < N.np → 0 ≤ C j) : 0 ≤ N.most R C := by
 obtain ⟨S, hS⟩ := N.most_get R C
 rw [hS]
 have h1 : 0 ≤ sm N.nr (fun i => bif S i then R i else 0) := ve fun i hi => by cases S i; exact Int.le_refl _; exact hR i hi
 have h2 : 0 ≤ sm N.np (fun j => bif N.hit S j then 0 else C j) := ve fun j hj => by cases N.hit S j; exact hC j hj; exact Int.le_refl _
 unfold Net.f
 omega
theorem Net.worst_sum (hN : N.Ok) (hR : ∀ i, i < N.nr → 0 ≤ R i) (hC : ∀ j, j < N.np → 0 ≤ C j) : sm N.np (N.worst R C) = N.most R C := by
 have h := Net.room_ok hN hR hC N.np (Nat.le_refl _)
 have h1 := Net.most_nn h.rnn h.cnn
 have h2 := Net.most_le (R := (N.room R C N.np).1) (C := (N.room R C N.np).2) hN (fun _ => false)
 have h3 : N.f (N.room R C N.np).1 (N.room R C N.np).2 (fun _ => false) = 0 := by
  have e1 : sm N.nr (fun i => bif (fun _ : Nat => false) i then (N.room R C N.np).1 i else 0) = 0 := (ia (h := fun _ => 0) fun i _ => rfl).trans (l6 _)
  have e2 : sm N.np (fun j => bif N.hit (fun _ => false) j then 0 else (N.room R C N.np).2 j) = 0 := (ia (h := fun _ => 0) fun j hj => by
   rw [h.caps j, decide_eq_true hj]
   cases N.hit (fun _ => false) j <;> rfl).trans (l6 _)
  unfold Net.f
  rw [e1, e2]; rfl
 have := h.all
 omega
theorem Net.worst_feas (hN : N.Ok) (hR : ∀ i, i < N.nr → 0 ≤ R i) (hC : ∀ j, j < N.np → 0 ≤ C j) : N.Feas R C (N.worst R C) := by
 refine ⟨fun j hj => ?_, fun r hr => ?_⟩
 ·have hp := Net.worst_pick hN hR hC hj
  have h := Net.room_ok hN hR hC j (by omega)
  have := (Net.le_alone.1 hp.le).1
  rw [h.caps j, decide_eq_false (Nat.lt_irrefl _), cond_false] at this
  exact ⟨hp.nn, this⟩
 ·have h := Net.room_ok hN hR hC N.np (Nat.le_refl _)
  have h1 := h.rnn r hr
  rw [h.rds r] at h1
  omega
theorem x5 : ∀ {n i : Nat} {g : Nat → Int} (_ : i ≤ n), sm n g = sm i g + sm n (fun j => bif decide (j < i) then 0 else g j)
 | 0, i, g, h => by
  obtain rfl : i = 0 := by omega
  rfl
 | n + 1, i, g, h => by
  by_cases e : i = n + 1
  ·subst e
   rw [ia (n := n + 1) (g := fun j => bif decide (j < n + 1) then 0 else g j) (h := fun _ => 0) (fun j hj => by rw [decide_eq_true hj]; rfl), l6]
   omega
  ·have := x5 (n := n) (i := i) (g := g) (by omega)
   simp only [sm]
   rw [decide_eq_false (show ¬ n < i by omega), cond_false]
   omega
/-- what is left of what may remain, behind the first pages -/
theorem Net.feas_room (hN : N.Ok) (hR : ∀ i, i < N.nr → 0 ≤ R i) (hC : ∀ j, j < N.np → 0 ≤ C j) {y : Nat → Int} (hy : N.Feas R C y) {i : Nat} (hi : i ≤ N.np) (he : ∀ j, j < i → y j = N.worst R C j) : N.Feas (N.room R C i).1 (N.room R C i).2 (fun j => bif decide (j < i) then 0 else y j) := by
 have h := Net.room_ok hN hR hC i hi
 refine ⟨fun j hj => ?_, fun r hr => ?_⟩
 ·rw [h.caps j]
  cases decide (j < i)
  ·exact hy.page j hj
  ·exact ⟨Int.le_refl _, Int.le_refl _⟩
 ·have h1 := hy.rd r hr
  rw [x5 hi] at h1
  rw [h.rds r]
  have e1 : sm i (fun j => bif N.by j r then y j else 0) = sm i (fun j => bif N.by j r then N.worst R C j else 0) := ia fun j hj => by rw [he j hj]
  have e2 : sm N.np (fun j => bif N.by j r then (bif decide (j < i) then 0 else y j) else 0) = sm N.np (fun j => bif decide (j < i) then 0 else (bif N.by j r then y j else 0)) := ia fun j _ => by
   cases N.by j r <;> cases decide (j < i) <;> rfl
  rw [e2]
  omega
/-- feasible on what is left when a page is taken -/
theorem Net.feas_less {y : Nat → Int} (hy : N.Feas R C y) {j : Nat} (hj : j < N.np) : N.Feas (N.lessR R j (y j)) (dq C j) (dq y j) := by
 refine ⟨fun k hk => ?_, fun r hr => ?_⟩
 ·unfold dq
  cases decide (k = j)
  ·exact hy.page k hk
  ·exact ⟨Int.le_refl _, Int.le_refl _⟩
 ·have h1 := hy.rd r hr
  have e1 : sm N.np (fun k => bif N.by k r then dq y j k else 0) = sm N.np (fun k => bif N.by k r then y k else 0) - (bif N.by j r then y j else 0) := by
   have := ox hj (bif N.by j r then y j else 0)
   rw [← this, ← ow]
   refine ia fun k _ => ?_
   unfold dq
   by_cases e : k = j
   ·subst e; cases N.by k r <;> simp
   ·rw [decide_eq_false e]; cases N.by k r <;> simp
  rw [e1]
  unfold Net.lessR
  cases N.by j r <;> simp only [cond_true, cond_false] <;> omega
theorem Net.feas_alone {y : Nat → Int} (hN : N.Ok) (hy : N.Feas R C y) {j : Nat} (hj : j < N.np) : y j ≤ N.alone R C j := Net.le_alone.2 ⟨(hy.page j hj).2, fun i hi => by
 have h1 := hy.rd i (hN.by_lt hi)
 have h2 := ubd (n := N.np) (k := j) (g := fun k => bif N.by k i then y k else 0) hj fun k hk => by
  cases N.by k i
  ·exact Int.le_refl _
  ·exact (hy.page k hk).1
 rw [hi] at h2
 exact Int.le_trans h2 h1⟩
theorem uie {y : Nat → Int} {n j : Nat} (hj : j < n) : sm n (dq y j) = sm n y - y j := by
 have := ox hj (y j)
 rw [← this, ← ow]
 refine ia fun k _ => ?_
 unfold dq
 by_cases e : k = j
 ·subst e; simp
 ·rw [decide_eq_false e]; simp
/-- no truth has as much that remains, and more on the first page that differs -/
theorem Net.worst_lex (hN : N.Ok) (hR : ∀ i, i < N.nr → 0 ≤ R i) (hC : ∀ j, j < N.np → 0 ≤ C j) {y : Nat → Int} (hy : N.Feas R C y) (hs : sm N.np y = N.most R C) {i : Nat} (hi : i < N.np) (he : ∀ j, j < i → y j = N.worst R C j) : y i ≤ N.worst R C i := by
 have h := Net.room_ok hN hR hC i (by omega)
 have hp := Net.worst_pick hN hR hC hi
 have hf := Net.feas_room hN hR hC hy (by omega) he
 have hyi : (bif decide (i < i) then 0 else y i) = y i := by simp
 have ha := Net.feas_alone hN hf hi
 have hl := Net.feas_less hf hi
 rw [hyi] at ha hl
 have hm : sm N.np (dq (fun j => bif decide (j < i) then 0 else y j) i) ≤ N.most (N.lessR (N.room R C i).1 i (y i)) (dq (N.room R C i).2 i) := by
  obtain ⟨S, hS⟩ := N.most_get (N.lessR (N.room R C i).1 i (y i)) (dq (N.room R C i).2 i)
  rw [hS]
  exact hl.le hN S
 rw [uie hi, hyi] at hm
 have h1 := x5 (n := N.np) (i := i) (g := y) (by omega)
 have h2 : sm i y = sm i (N.worst R C) := ia he
 have h3 := h.all
 refine Classical.byContradiction fun hno => hp.max (y i) (by omega) ha ?_
 omega
/-- no truth has more that remains -/
theorem Net.feas_most (hN : N.Ok) {y : Nat → Int} (hy : N.Feas R C y) : sm N.np y ≤ N.most R C := by
 obtain ⟨S, hS⟩ := N.most_get R C
 rw [hS]
 exact hy.le hN S
end
end Go.AB
namespace Go.AB
open Go Go.RowKit
open Go.AB.Enc (cells)
open Go.PB (aw ai PlaceD bc bg bf bp aq af ci bn)
theorem uh0 (g : aq → Nat) : ∀ l : List aq, ((cc l g : Nat) : Int) = sm l.length (fun j => match l[j]? with | some x => (g x : Int) | none => 0) := by
 intro l
 have key : ∀ k, k ≤ l.length → ((cc (l.take k) g : Nat) : Int) = sm k (fun j => match l[j]? with | some x => (g x : Int) | none => 0) := by
  intro k
  induction k with
  | zero => intro _; rfl
  | succ k ih =>
   intro hk
   have hx : l[k]? = some l[k] := List.getElem?_eq_getElem (by omega)
   rw [l4 hx]
   simp only [sm, hx]
   have := ih (by omega)
   omega
 have := key l.length (Nat.le_refl _)
 rwa [List.take_length] at this
/-! ### What valid proofs are -/
structure dz (p : af) : Prop where
 text : dg p.text = true
 nf : p.firsts.length ≤ 3
 ns : p.seconds.length ≤ 3
 np : p.pages.length ≤ 8
 rd : ∀ r ∈ p.firsts ++ p.seconds, gi r = true
 page : ∀ (j : Nat) (x : aq), p.pages[j]? = some x → lk p (g8 p.pages j) x = true
theorem lx {p : af} (h : cj p = 0) : dz p ∧ fy p = true := by
 unfold cj at h
 cases ht : dg p.text
 ·rw [ht] at h; simp at h
 ·cases hp : fy p
  ·rw [ht, hp] at h; simp at h
  ·refine ⟨?_, rfl⟩
   unfold fy jh at hp
   simp only [Bool.and_eq_true, decide_eq_true_eq] at hp
   obtain ⟨⟨⟨⟨⟨h1, h2⟩, h3⟩, _⟩, h5⟩, h6⟩ := hp
   refine ⟨ht, h1, h2, h5, fun r hr => List.all_eq_true.1 h3 r hr, fun j x hx => ?_⟩
   have hj := (List.getElem?_eq_some_iff.1 hx).1
   have := List.all_eq_true.1 h6 j (List.mem_range.2 hj)
   unfold s7 at this
   rw [hx] at this
   exact this
structure nj (p : af) (last : Int) (x : aq) : Prop where
 fr : last < x.fr
 to : x.fr ≤ x.to
 lt : x.to < (l9 p.text : Int)
 fst : -1 ≤ x.fst ∧ x.fst ≤ (p.firsts.length : Int) - 1
 snd : -1 ≤ x.snd ∧ x.snd ≤ (p.seconds.length : Int) - 1
 found : gy p.text x x.fst x.found = true
 well : gy p.text x x.snd x.well = true
theorem pageB_true {p : af} {last : Int} {x : aq} : lk p last x = true ↔ nj p last x := by
 unfold lk
 simp only [Bool.and_eq_true, decide_eq_true_eq, inB_true]
 exact ⟨fun ⟨⟨⟨⟨⟨⟨h1, h2⟩, h3⟩, h4⟩, h5⟩, h6⟩, h7⟩ => ⟨h1, h2, h3, h4, h6, h5, h7⟩, fun h => ⟨⟨⟨⟨⟨⟨h.fr, h.to⟩, h.lt⟩, h.fst⟩, h.found⟩, h.snd⟩, h.well⟩⟩
theorem mb {t : ai} {x : aq} {r : Int} {l : List PlaceD} (h : gy t x r l = true) {q : PlaceD} (hq : q ∈ l) : fh t q = true ∧ fe t x q = true := by
 unfold gy at h
 rw [Bool.and_eq_true] at h
 obtain ⟨i, hi⟩ := List.getElem?_of_mem hq
 have := List.all_eq_true.1 h.2 i (List.mem_range.2 (List.getElem?_eq_some_iff.1 hi).1)
 unfold jc at this
 rw [hi] at this
 simp only [Bool.and_eq_true] at this
 exact this.1
theorem umy {t : ai} {x : aq} {r : Int} {l : List PlaceD} (h : gy t x r l = true) {i : Nat} {a q : PlaceD} (ha : l[i]? = some a) (hq : l[i + 1]? = some q) : eu (cv a) (cv q) < 0 := by
 unfold gy at h
 rw [Bool.and_eq_true] at h
 have := List.all_eq_true.1 h.2 (i + 1) (List.mem_range.2 (List.getElem?_eq_some_iff.1 hq).1)
 unfold jc at this
 rw [hq, Nat.add_sub_cancel, ha] at this
 have h9 : (fh t q = true ∧ fe t x q = true) ∧ eu (cv a) (cv q) < 0 := by simpa [mj] using this
 exact h9.2
theorem ufj {a b c : PlaceD} (h : eu (cv a) (cv b) < 0) (k : eu (cv b) (cv c) < 0) : eu (cv a) (cv c) < 0 := by
 rw [ne (by rfl)] at h k ⊢
 exact rf h k
theorem uae (a : PlaceD) : ¬ eu (cv a) (cv a) < 0 := by
 rw [ne (by rfl)]
 exact pa _
theorem uh6 {l : List PlaceD} (h : ∀ (i : Nat) (a q : PlaceD), l[i]? = some a → l[i + 1]? = some q → eu (cv a) (cv q) < 0) : l.Pairwise fun a b => eu (cv a) (cv b) < 0 := by
 rw [List.pairwise_iff_getElem]
 intro i j hi hj hij
 have key : ∀ d (hd : i + 1 + d < l.length), eu (cv l[i]) (cv l[i + 1 + d]) < 0 := by
  intro d
  induction d with
  | zero => intro hd; exact h i _ _ (List.getElem?_eq_getElem hi) (List.getElem?_eq_getElem hd)
  | succ d ih =>
   intro hd
   exact ufj (ih (by omega)) (h (i + 1 + d) _ _ (List.getElem?_eq_getElem (by omega)) (List.getElem?_eq_getElem hd))
 have := key (j - (i + 1)) (by omega)
 simpa [show i + 1 + (j - (i + 1)) = j by omega] using this
theorem wz {t : ai} {x : aq} {r : Int} {l : List PlaceD} (h : gy t x r l = true) : l.Pairwise fun a b => eu (cv a) (cv b) < 0 := uh6 fun _ _ _ ha hq => umy h ha hq
/-- lists in order, with the same places -/
theorem vd : ∀ {l m : List PlaceD}, l.Pairwise (fun a b => eu (cv a) (cv b) < 0) → m.Pairwise (fun a b => eu (cv a) (cv b) < 0) → (∀ q, q ∈ l ↔ q ∈ m) → l = m
 | [], [], _, _, _ => rfl
 | [], b :: m, _, _, h => by have := (h b).2 (List.mem_cons_self ..); cases this
 | a :: l, [], _, _, h => by have := (h a).1 (List.mem_cons_self ..); cases this
 | a :: l, b :: m, h1, h2, h => by
  rw [List.pairwise_cons] at h1 h2
  have hab : a = b := by
   have p1 := (h a).1 (List.mem_cons_self ..)
   have p2 := (h b).2 (List.mem_cons_self ..)
   rw [List.mem_cons] at p1 p2
   rcases p1 with rfl | p1
   ·rfl
   ·rcases p2 with rfl | p2
    ·rfl
    ·exact absurd (ufj (h1.1 b p2) (h2.1 a p1)) (uae a)
  subst hab
  rw [vd h1.2 h2.2 fun q => ?_]
  constructor
  ·intro hq
   have := (h q).1 (List.mem_cons_of_mem _ hq)
   rw [List.mem_cons] at this
   rcases this with rfl | this
   ·exact absurd (h1.1 q hq) (uae q)
   ·exact this
  ·intro hq
   have := (h q).2 (List.mem_cons_of_mem _ hq)
   rw [List.mem_cons] at this
   rcases this with rfl | this
   ·exact absurd (h2.1 q hq) (uae q)
   ·exact this
/-! ### Pages between readers -/
def mx (p : af) (j : Nat) (g : aq → Int) : Int := match p.pages[j]? with | some x => g x | none => 0
theorem o6 {p : af} {j : Nat} {x : aq} (h : p.pages[j]? = some x) (g : aq → Int) : mx p j g = g x := by unfold mx; rw [h]
def cy (p : af) (j : Nat) : Int := mx p j (ui p.text)
def c7 (p : af) (j : Nat) : Int := mx p j fun x => ((dh p.text x).length : Int)
def ki (p : af) (j : Nat) : Int := mx p j fun x => (ei p.text x : Int)
theorem qz {p : af} (h : dz p) : (bk p).Ok := by
 refine ⟨Nat.le_add_right _ _, fun j i hi => ?_, fun j i hi => ?_⟩
 ·simp only [bk] at hi ⊢
  cases hx : p.pages[j]? with
  | none => rw [hx] at hi; cases hi
  | some x =>
   rw [hx] at hi
   have hp := (pageB_true.1 (h.page j x hx)).fst
   dsimp only at hi
   by_cases q : 0 ≤ x.fst
   ·rw [decide_eq_true q, cond_true, Option.some.injEq] at hi
    omega
   ·rw [decide_eq_false q] at hi; cases hi
 ·simp only [bk, bx] at hi ⊢
  cases hx : p.pages[j]? with
  | none => rw [hx] at hi; cases hi
  | some x =>
   rw [hx] at hi
   have hp := (pageB_true.1 (h.page j x hx)).snd
   dsimp only at hi
   by_cases q : 0 ≤ x.snd
   ·rw [decide_eq_true q, cond_true, Option.some.injEq] at hi
    omega
   ·rw [decide_eq_false q] at hi; cases hi
/-- the readers of a page, as the program lists them -/
def di (p : af) (x : aq) : List Int := (bif decide (0 ≤ x.fst) then [x.fst] else []) ++ (bif decide (0 ≤ x.snd) then [(p.firsts.length : Int) + x.snd] else [])
theorem uml {p : af} {j : Nat} {x : aq} (hx : p.pages[j]? = some x) (S : Nat → Bool) : (bk p).hit S j = (di p x).any fun k => S k.toNat := by
 simp only [Net.hit, bk, hx, di, List.any_append]
 congr 1
 ·cases decide (0 ≤ x.fst) <;> simp [ob]
 ·by_cases q : 0 ≤ x.snd
  ·simp [q, ob, show ((p.firsts.length : Int) + x.snd).toNat = p.firsts.length + x.snd.toNat by omega]
  ·simp [q, ob]
theorem rt {p : af} (h : dz p) {j : Nat} {x : aq} (hx : p.pages[j]? = some x) (i : Nat) : (bk p).by j i = bif decide (i < p.firsts.length) then decide (dv false x = (i : Int)) else decide (dv true x = ((i - p.firsts.length : Nat) : Int)) := by
 have hp := pageB_true.1 (h.page j x hx)
 have h1 := hp.fst
 have h2 := hp.snd
 simp only [Net.by, bk, hx]
 rw [Bool.eq_iff_iff]
 by_cases hi : i < p.firsts.length
 ·rw [decide_eq_true hi, cond_true, Bool.or_eq_true, decide_eq_true_eq, decide_eq_true_eq, decide_eq_true_eq]
  show _ ↔ x.fst = (i : Int)
  constructor
  ·rintro (q | q)
   ·by_cases z : 0 ≤ x.fst
    ·rw [decide_eq_true z, cond_true, Option.some.injEq] at q; omega
    ·rw [decide_eq_false z] at q; cases q
   ·by_cases z : 0 ≤ x.snd
    ·rw [decide_eq_true z, cond_true, Option.some.injEq] at q; omega
    ·rw [decide_eq_false z] at q; cases q
  ·intro q
   left
   rw [decide_eq_true (show 0 ≤ x.fst by omega), cond_true, Option.some.injEq]
   omega
 ·rw [decide_eq_false hi, cond_false, Bool.or_eq_true, decide_eq_true_eq, decide_eq_true_eq, decide_eq_true_eq]
  show _ ↔ x.snd = ((i - p.firsts.length : Nat) : Int)
  constructor
  ·rintro (q | q)
   ·by_cases z : 0 ≤ x.fst
    ·rw [decide_eq_true z, cond_true, Option.some.injEq] at q; omega
    ·rw [decide_eq_false z] at q; cases q
   ·by_cases z : 0 ≤ x.snd
    ·rw [decide_eq_true z, cond_true, Option.some.injEq] at q; omega
    ·rw [decide_eq_false z] at q; cases q
  ·intro q
   right
   rw [decide_eq_true (show 0 ≤ x.snd by omega), cond_true, Option.some.injEq]
   omega
theorem umq {p : af} {last : Int} {x : aq} (h : nj p last x) : (dh p.text x).length ≤ ei p.text x := by
 unfold dh ei
 rw [← List.countP_eq_length_filter, ← List.countP_eq_length_filter]
 refine List.countP_mono_left fun q _ hq => ?_
 rw [Bool.or_eq_true, decide_eq_true_eq, decide_eq_true_eq] at hq
 rcases hq with hq | hq
 ·exact (mb h.found hq).2
 ·exact (mb h.well hq).2
theorem qf {p : af} (h : dz p) (j : Nat) : 0 ≤ cy p j := by
 unfold cy mx
 cases hx : p.pages[j]? with
 | none => exact Int.le_refl _
 | some x =>
  have := umq (pageB_true.1 (h.page j x hx))
  show 0 ≤ ui p.text x
  unfold ui
  omega
def ke (p : af) (i : Nat) : Int := bif decide (i < p.firsts.length) then jn p false i else jn p true (i - p.firsts.length)
/-- of the bound of a reader is left what is not told -/
theorem udm {p : af} (h : dz p) (i : Nat) : cm p i = ke p i - sm p.pages.length (fun j => bif (bk p).by j i then c7 p j else 0) := by
 have key : ∀ (b : Bool) (k : Int), (∀ (j : Nat) (x : aq), p.pages[j]? = some x → (bk p).by j i = decide (dv b x = k)) → ((cc p.pages (dm p.text b k) : Nat) : Int) = sm p.pages.length (fun j => bif (bk p).by j i then c7 p j else 0) := fun b k hb => by
  rw [uh0]
  refine ia fun j hj => ?_
  have hx : p.pages[j]? = some p.pages[j] := List.getElem?_eq_getElem hj
  rw [hb j _ hx]
  unfold c7
  rw [o6 hx, hx]
  dsimp only
  unfold dm
  cases decide (dv b p.pages[j] = k) <;> rfl
 unfold cm ke
 by_cases hi : i < p.firsts.length
 ·rw [decide_eq_true hi, cond_true, cond_true]
  unfold k8
  rw [key false i fun j x hx => by rw [rt h hx, decide_eq_true hi, cond_true]]
 ·rw [decide_eq_false hi, cond_false, cond_false]
  unfold k8
  rw [key true _ fun j x hx => by rw [rt h hx, decide_eq_false hi, cond_false]]
/-- errors on all pages that are a truth -/
def jf (p : af) (es : List Int) : Bool := decide (es.length = p.pages.length) && (List.range p.pages.length).all (fun j => inB (gx es j) (c7 p j) (ki p j)) && (List.range (bx p)).all fun i => decide (sm p.pages.length (fun j => bif (bk p).by j i then gx es j else 0) ≤ ke p i)
theorem uhi {p : af} (h : dz p) {es : List Int} : jf p es = true ↔ es.length = p.pages.length ∧ (bk p).Feas (cm p) (cy p) (fun j => gx es j - c7 p j) := by
 unfold jf
 simp only [Bool.and_eq_true, decide_eq_true_eq, List.all_eq_true, List.mem_range, inB_true]
 have hcap : ∀ j, j < p.pages.length → cy p j = ki p j - c7 p j := fun j hj => by
  have hx : p.pages[j]? = some p.pages[j] := List.getElem?_eq_getElem hj
  unfold cy ki c7
  rw [o6 hx, o6 hx, o6 hx]
  rfl
 have hsub : ∀ i, sm p.pages.length (fun j => bif (bk p).by j i then gx es j - c7 p j else 0) = sm p.pages.length (fun j => bif (bk p).by j i then gx es j else 0) - sm p.pages.length (fun j => bif (bk p).by j i then c7 p j else 0) := fun i => by
  rw [← ow]
  exact ia fun j _ => by cases (bk p).by j i <;> simp
 constructor
 ·rintro ⟨⟨h1, h2⟩, h3⟩
  refine ⟨h1, fun j hj => ?_, fun i hi => ?_⟩
  ·have := h2 j hj
   have := hcap j hj
   omega
  ·have := h3 i hi
   have e := udm h i
   have := hsub i
   show sm p.pages.length _ ≤ _
   omega
 ·rintro ⟨h1, h2⟩
  refine ⟨⟨h1, fun j hj => ?_⟩, fun i hi => ?_⟩
  ·have := h2.page j hj
   have := hcap j hj
   omega
  ·have q : sm p.pages.length (fun j => bif (bk p).by j i then gx es j - c7 p j else 0) ≤ cm p i := h2.rd i hi
   have e := udm h i
   have := hsub i
   omega
end Go.AB
namespace Go.AB
open Go Go.RowKit
open Go.AB.Enc (cells)
/-- the numbers of a set -/
def v7 (n s : Nat) : List Nat := (List.range n).filter fun i => s.testBit i
def ep (n s : Nat) : List Int := (v7 n s).map fun i : Nat => (i : Int)
theorem udd (n s : Nat) : ep (n + 1) s = ep n s ++ (bif s.testBit n then [(n : Int)] else []) := by
 unfold ep v7
 rw [List.range_succ, List.filter_append, List.map_append]
 cases h : s.testBit n <;> simp [h]
theorem tq (n s : Nat) : (ep n s).length ≤ n := by
 unfold ep v7
 rw [List.length_map]
 have := List.length_filter_le (fun i => s.testBit i) (List.range n)
 rwa [List.length_range] at this
theorem membersL_mem {n s : Nat} {x : Int} : x ∈ ep n s ↔ ∃ i : Nat, x = (i : Int) ∧ i < n ∧ s.testBit i = true := by
 unfold ep v7
 simp only [List.mem_map, List.mem_filter, List.mem_range]
 exact ⟨fun ⟨i, ⟨h1, h2⟩, h3⟩ => ⟨i, h3.symm, h1, h2⟩, fun ⟨i, h3, h1, h2⟩ => ⟨i, ⟨h1, h2⟩, h3.symm⟩⟩
/-- the order of lists: shorter ones first, then by their numbers -/
def ip (a b : List Int) : Bool := decide (a.length < b.length) || (decide (a.length = b.length) && decide (eu a b < 0))
theorem ufk {a b : List Int} : ip a b = true ↔ a.length < b.length ∨ (a.length = b.length ∧ ltW a b) := by
 unfold ip
 rw [Bool.or_eq_true, Bool.and_eq_true, decide_eq_true_eq, decide_eq_true_eq, decide_eq_true_eq]
 constructor
 ·rintro (h | ⟨h1, h2⟩)
  ·exact .inl h
  ·exact .inr ⟨h1, (ne h1).1 h2⟩
 ·rintro (h | ⟨h1, h2⟩)
  ·exact .inl h
  ·exact .inr ⟨h1, (ne h1).2 h2⟩
theorem ufl (a : List Int) : ip a a = false := by
 rw [← Bool.not_eq_true, ufk]
 rintro (h | ⟨_, h⟩)
 ·omega
 ·exact pa a h
theorem uog {a b c : List Int} (h : ip a b = true) (k : ip b c = true) : ip a c = true := by
 rw [ufk] at *
 rcases h with h | ⟨h1, h2⟩
 ·rcases k with k | ⟨k1, _⟩
  ·exact .inl (by omega)
  ·exact .inl (by omega)
 ·rcases k with k | ⟨k1, k2⟩
  ·exact .inl (by omega)
  ·exact .inr ⟨by omega, rf h2 k2⟩
/-- what is found among the first sets -/
def ey (so : Nat → Bool) (n : Nat) : Nat → Option (List Int)
 | 0 => none
 | k + 1 => match ey so n k with
  | none => bif so k then some (ep n k) else none
  | some b => bif so k && ip (ep n k) b then some (ep n k) else some b
def ng (so : Nat → Bool) (n : Nat) : List Int := (ey so n (2 ^ n)).getD []
structure upa (so : Nat → Bool) (n k : Nat) (b : List Int) : Prop where
 get : ∃ s, s < k ∧ so s = true ∧ b = ep n s
 min : ∀ s, s < k → so s = true → ip (ep n s) b = false
theorem xc (so : Nat → Bool) (n : Nat) : ∀ k, (ey so n k = none ∧ ∀ s, s < k → so s = false) ∨ ∃ b, ey so n k = some b ∧ upa so n k b
 | 0 => .inl ⟨rfl, fun s h => absurd h (Nat.not_lt_zero _)⟩
 | k + 1 => by
  rcases xc so n k with ⟨h1, h2⟩ | ⟨b, h1, h2⟩
  ·simp only [ey, h1]
   cases hs : so k
   ·exact .inl ⟨rfl, fun s h => by
     by_cases e : s = k
     ·subst e; exact hs
     ·exact h2 s (by omega)⟩
   ·exact .inr ⟨_, rfl, ⟨k, by omega, hs, rfl⟩, fun s h hso => by
     by_cases e : s = k
     ·subst e; exact ufl _
     ·rw [h2 s (by omega)] at hso; cases hso⟩
  ·simp only [ey, h1]
   right
   cases hs : so k && ip (ep n k) b
   ·refine ⟨b, rfl, ?_, fun s h hso => ?_⟩
    ·obtain ⟨s, q1, q2, q3⟩ := h2.get
     exact ⟨s, by omega, q2, q3⟩
    ·by_cases e : s = k
     ·subst e
      rw [hso, Bool.true_and] at hs
      exact hs
     ·exact h2.min s (by omega) hso
   ·rw [Bool.and_eq_true] at hs
    refine ⟨_, rfl, ⟨k, by omega, hs.1, rfl⟩, fun s h hso => ?_⟩
    by_cases e : s = k
    ·subst e; exact ufl _
    ·rw [← Bool.not_eq_true]
     intro hb
     have := uog hb hs.2
     rw [h2.min s (by omega) hso] at this
     cases this
theorem ufi (so : Nat → Bool) (n : Nat) : (ng so n).length ≤ n := by
 unfold ng
 rcases xc so n (2 ^ n) with ⟨h, _⟩ | ⟨b, h, k⟩
 ·rw [h]; exact Nat.zero_le _
 ·rw [h]
  obtain ⟨s, _, _, rfl⟩ := k.get
  exact tq n s
theorem ufh {so : Nat → Bool} {n k : Nat} (h : ey so n k = none) : ey so n (k + 1) = bif so k then some (ep n k) else none := by simp only [ey, h]
theorem uad {so : Nat → Bool} {n k : Nat} {b : List Int} (h : ey so n k = some b) : ey so n (k + 1) = bif so k && ip (ep n k) b then some (ep n k) else some b := by simp only [ey, h]
/-! ### Lists of numbers that are looked up -/
def bh (n : Nat) (R : Nat → Int) : List Int := (List.range n).map R
theorem gu (n : Nat) (R : Nat → Int) : (bh n R).length = n := by simp [bh]
theorem i2 {n i : Nat} (R : Nat → Int) (h : i < n) : (bh n R)[i]? = some (R i) := by simp [bh, h]
theorem sl (n : Nat) (R : Nat → Int) : bh (n + 1) R = bh n R ++ [R n] := by
 unfold bh
 rw [List.range_succ, List.map_append]; rfl
theorem pr {n i : Nat} (R : Nat → Int) (v : Int) (h : i < n) : (bh n R).set i v = bh n fun k => bif decide (k = i) then v else R k := by
 apply List.ext_getElem?
 intro k
 rw [List.getElem?_set, gu]
 by_cases hk : k < n
 ·rw [i2 (fun k => bif decide (k = i) then v else R k) hk, i2 R hk]
  by_cases e : i = k
  ·subst e; rw [if_pos rfl, if_pos h, decide_eq_true rfl]; rfl
  ·rw [if_neg e, decide_eq_false (Ne.symm e)]; rfl
 ·rw [List.getElem?_eq_none (by rw [gu]; omega)]
  rw [if_neg (by omega), List.getElem?_eq_none (by rw [gu]; omega)]
theorem uhv {n i : Nat} (R : Nat → Int) (h : i < n) : gx (bh n R) i = R i := by unfold gx; rw [i2 R h]; rfl
end Go.AB
namespace Go.AB
open Go Go.RowKit
open Go.AB.Enc (cells)
open Go.PB (aw ai PlaceD bc bg bf bp aq af ci bn)
/-! ### All places are in order -/
theorem uoo (t : ai) : (dc t).Pairwise fun a b => eu (cv a) (cv b) < 0 := by
 unfold dc
 rw [List.pairwise_map, List.pairwise_iff_getElem]
 intro i j hi hj hij
 have h1 := List.getElem?_eq_getElem hi
 have h2 := List.getElem?_eq_getElem hj
 have h := uk1 (uf4 h1).1 (uf4 h2).1
 rw [yv h1 rfl, yv h2 rfl] at h
 rw [ne (by rfl), ← h]
 omega
theorem allQ_mem {t : ai} {q : PlaceD} : q ∈ dc t ↔ fh t q = true := allP_mem
theorem w4 {t : ai} (f : PlaceD → Bool) : ((dc t).filter f).Pairwise fun a b => eu (cv a) (cv b) < 0 := (uoo t).filter _
/-- places in order, of a text, are those of all places that are among them -/
theorem uid {t : ai} {l : List PlaceD} (h : l.Pairwise fun a b => eu (cv a) (cv b) < 0) (hp : ∀ q ∈ l, fh t q = true) : l = (dc t).filter fun q => decide (q ∈ l) :=
 vd h (w4 _) fun q => by
  rw [List.mem_filter, decide_eq_true_eq, allQ_mem]
  exact ⟨fun h => ⟨hp q h, h⟩, fun h => h.2⟩
theorem umz {t : ai} {x : aq} {r : Int} {l : List PlaceD} (h : gy t x r l = true) : l = (dc t).filter fun q => decide (q ∈ l) := uid (wz h) fun q hq => (mb h hq).1
theorem lu {t : ai} {x : aq} {r : Int} {l : List PlaceD} (h : gy t x r l = true) : l.length ≤ (dc t).length := by
 rw [umz h]
 exact List.length_filter_le _ _
theorem rp (t : ai) (x : aq) : (dh t x).length ≤ (dc t).length := List.length_filter_le _ _
theorem ufd (t : ai) (x : aq) : (dw t x).length ≤ (dc t).length := List.length_filter_le _ _
theorem uv (t : ai) (x : aq) : ei t x ≤ (dc t).length := List.length_filter_le _ _
/-! ### How great numbers are -/
theorem xy {g : aq → Nat} {m : Nat} : ∀ {l : List aq}, (∀ x ∈ l, g x ≤ m) → cc l g ≤ l.length * m
 | [], _ => by simp [cc]
 | x :: l, h => by
  have h1 := xy (l := l) fun y hy => h y (List.mem_cons_of_mem _ hy)
  have h2 := h x (List.mem_cons_self ..)
  simp only [cc, List.map_cons, List.sum_cons, List.length_cons] at h1 ⊢
  rw [Nat.succ_mul]
  omega
theorem yo {p : af} (h : dz p) (b : Bool) (i : Int) : cc p.pages (c4 b i) ≤ 4800 := by
 have hq := lh h.text
 have h1 := xy (l := p.pages) (g := c4 b i) (m := 600) fun x hx => by
  obtain ⟨j, hj⟩ := List.getElem?_of_mem hx
  have hp := pageB_true.1 (h.page j x hj)
  unfold c4
  cases decide (dv b x = i)
  ·exact Nat.zero_le _
  ·cases b
   ·have := lu hp.found
    show x.found.length ≤ 600
    omega
   ·have := lu hp.well
    show x.well.length ≤ 600
    omega
 have := h.np
 have h2 : p.pages.length * 600 ≤ 8 * 600 := Nat.mul_le_mul_right _ this
 omega
theorem yh {p : af} (h : dz p) (b : Bool) (i : Int) : cc p.pages (dm p.text b i) ≤ 4800 := by
 have hq := lh h.text
 have h1 := xy (l := p.pages) (g := dm p.text b i) (m := 600) fun x hx => by
  have := rp p.text x
  unfold dm
  cases decide (dv b x = i)
  ·exact Nat.zero_le _
  ·show (dh p.text x).length ≤ 600
   omega
 have := h.np
 have h2 : p.pages.length * 600 ≤ 8 * 600 := Nat.mul_le_mul_right _ this
 omega
theorem y5 {p : af} (h : dz p) (b : Bool) (i : Nat) : 0 ≤ kz p b i ∧ kz p b i ≤ 90 := by
 unfold kz
 cases hr : (dj p b)[i]? with
 | none => exact ⟨Int.le_refl _, by show (0 : Int) ≤ 90; omega⟩
 | some r =>
  have hm := List.mem_of_getElem? hr
  have : gi r = true := h.rd r (by
   rw [List.mem_append]
   cases b
   ·exact .inl hm
   ·exact .inr hm)
  unfold gi at this
  rw [Bool.and_eq_true, inB_true, inB_true] at this
  exact this.2
theorem xb {p : af} (h : dz p) (b : Bool) (i : Nat) : 0 ≤ jn p b i ∧ jn p b i ≤ 48000 := by
 have h1 := yo h b i
 have h2 := y5 h b i
 unfold jn
 have h3 : (0 : Int) < 100 - kz p b i := by omega
 refine ⟨Int.ediv_nonneg (by omega) (by omega), ?_⟩
 have h4 : 100 * ((cc p.pages (c4 b i) : Nat) : Int) / (100 - kz p b i) ≤ 100 * ((cc p.pages (c4 b i) : Nat) : Int) / 10 := by
  refine Int.le_ediv_of_mul_le (by omega) ?_
  have h5 := Int.ediv_mul_le (100 * ((cc p.pages (c4 b i) : Nat) : Int)) (show (100 - kz p b i) ≠ 0 by omega)
  have h6 : 0 ≤ 100 * ((cc p.pages (c4 b i) : Nat) : Int) / (100 - kz p b i) := Int.ediv_nonneg (by omega) (by omega)
  have h7 : 100 * ((cc p.pages (c4 b i) : Nat) : Int) / (100 - kz p b i) * 10 ≤ 100 * ((cc p.pages (c4 b i) : Nat) : Int) / (100 - kz p b i) * (100 - kz p b i) := Int.mul_le_mul_of_nonneg_left (by omega) h6
  omega
 omega
theorem udo {p : af} (h : dz p) (b : Bool) (i : Nat) : -4800 ≤ k8 p b i ∧ k8 p b i ≤ 48000 := by
 have h1 := xb h b i
 have h2 := yh h b i
 unfold k8
 omega
theorem ul3 {p : af} (h : dz p) (i : Nat) : -4800 ≤ cm p i ∧ cm p i ≤ 48000 := by
 unfold cm
 cases decide (i < p.firsts.length)
 ·exact udo h _ _
 ·exact udo h _ _
theorem xa {p : af} (h : dz p) (j : Nat) : 0 ≤ cy p j ∧ cy p j ≤ 600 := by
 refine ⟨qf h j, ?_⟩
 have hq := lh h.text
 unfold cy mx
 cases hx : p.pages[j]? with
 | none => show (0 : Int) ≤ 600; omega
 | some x =>
  have := uv p.text x
  show ui p.text x ≤ 600
  unfold ui
  omega
/-! ### What is told -/
section
def ec (p : af) (n : Int) : Int := bif decide (cj p = 0) then (bif inB n 0 ((p.pages.length : Int) - 1) then 0 else 2) else cj p
def fa (p : af) (e : Int) : Int := bif decide (e = 0) then (bif g4 p then 0 else 8) else e
def j4 (p : af) (b : Bool) (n : Int) : Int := bif decide (cj p = 0) then (bif inB n 0 (((dj p b).length : Int) - 1) then 0 else 2) else cj p
def i0 (p : af) (m : Int) : Int := bif decide (cj p = 0) then (bif decide (m < 0) then 2 else bif g4 p then 0 else 8) else cj p
def atE {α : Type} (e : Int) (d v : α) : α := bif decide (e = 0) then v else d
def l7 (p : af) (n : Int) : aq := (p.pages[n.toNat]?).getD ⟨0, 0, 0, 0, [], []⟩
def pq (p : af) (n : Int) : Int := atE (ec p n) 0 (ei p.text (l7 p n) : Int)
def ph (p : af) (n : Int) : List PlaceD := atE (ec p n) [] (dh p.text (l7 p n))
def ru (p : af) (n : Int) : List PlaceD := atE (ec p n) [] (dw p.text (l7 p n))
def oo (p : af) (b : Bool) (n : Int) : Int := atE (j4 p b n) 0 (jn p b n.toNat)
def m8 (p : af) (n : Int) : Int := bif decide (ec p n = 0) then (bif decide ((dw p.text (l7 p n)).length = 0) then 6 else 0) else ec p n
def zk (x : aq) (k : Nat) : bn := ⟨((x.found.length * x.well.length / k : Nat) : Int), (((x.found.length * x.well.length + k - 1) / k : Nat) : Int)⟩
def n8 (p : af) (n : Int) : bn := atE (m8 p n) ⟨0, 0⟩ (zk (l7 p n) (dw p.text (l7 p n)).length)
def n1 (p : af) (n : Int) : bn := atE (fa p (ec p n)) ⟨0, 0⟩ ⟨0, (bk p).alone (cm p) (cy p) n.toNat⟩
def qr (p : af) : Int := (bk p).most (cm p) (cy p)
def qq (p : af) : bn := atE (fa p (cj p)) ⟨0, 0⟩ ⟨0, qr p⟩
noncomputable def fl (p : af) : Nat → Int := (bk p).worst (cm p) (cy p)
noncomputable def nk (p : af) : List Int := atE (fa p (cj p)) [] (bh p.pages.length (fl p))
def qo (p : af) (s : Nat) : Bool := decide ((bk p).f (cm p) (cy p) (fun i => s.testBit i) = qr p)
def g3 (p : af) : List Int := ng (qo p) (bx p)
def nl (p : af) (l : List Int) : List Int := l.filter fun k => decide (k < (p.firsts.length : Int))
def mr (p : af) (l : List Int) : List Int := (l.filter fun k => !decide (k < (p.firsts.length : Int))).map fun k => k - (p.firsts.length : Int)
def kh (C : Nat → Int) (l : List Int) (j : Nat) : Int := bif decide ((j : Int) ∈ l) then 0 else C j
def uf6 (p : af) (l : List Int) : Int := (bk p).most (cm p) (kh (cy p) l)
def uh (p : af) (m : Int) (s : Nat) : Bool := decide (uf6 p (ep p.pages.length s) ≤ m)
def jy (p : af) (m : Int) : List Int := atE (i0 p m) [] (ng (uh p m) p.pages.length)
end
theorem ugj (C : Nat → Int) : kh C [] = C := by funext j; simp [kh]
theorem ugi (C : Nat → Int) (l : List Int) (i : Nat) : kh C (l ++ [(i : Int)]) = dq (kh C l) i := by
 funext j
 unfold kh dq
 by_cases e : j = i
 ·subst e; simp
 ·rw [decide_eq_false e, cond_false]
  congr 1
  rw [decide_eq_decide, List.mem_append, List.mem_singleton]
  constructor
  ·rintro (h | h)
   ·exact h
   ·omega
  ·exact .inl
theorem uly (N : Net) (R : Nat → Int) (j : Nat) : N.lessR R j 0 = R := by
 funext i
 unfold Net.lessR
 cases N.by j i <;> simp
theorem qp {p : af} (h : g4 p = true) : ∀ i, i < (bk p).nr → 0 ≤ cm p i := fun i hi => by
 have := List.all_eq_true.1 h i (List.mem_range.2 hi)
 exact of_decide_eq_true this
end Go.AB
namespace Go.AB
open Go Go.RowKit
open Go.AB.Enc (cells)
open Go.PB (aw ai PlaceD bc bg bf bp aq af ci bn)
/-! ### Readers who miss less -/
end Go.AB
namespace Go.AB
open Go Go.RowKit
open Go.AB.Enc (cells)
open Go.PB (aw ai PlaceD bc bg bf bp aq af ci bn)
end Go.AB
namespace Go.AB
open Go Go.RowKit
open Go.AB.Enc (cells)
open Go.PB (aw ai PlaceD bc bg bf bp aq af ci bn)
end Go.AB
namespace Go.AB
open Go Go.RowKit
open Go.AB.Enc (cells)
open Go.PB (aw ai PlaceD bc bg bf bp aq af ci bn)
end Go.AB
namespace Go.AB
open Go Go.RowKit
open Go.AB.Enc (cells)
open Go.PB (aw ai PlaceD bc bg bf bp aq af ci bn)
/-- as much as can be on a page, if nothing is lost by it -/
theorem Net.pick_alone {N : Net} {R C : Nat → Int} {j : Nat} (h0 : 0 ≤ N.alone R C j) (h : N.most R C ≤ N.alone R C j + N.most (N.lessR R j (N.alone R C j)) (dq C j)) : N.pick R C j = N.alone R C j :=
 Net.pick_eq ⟨h0, Int.le_refl _, h, fun m h1 h2 => by omega⟩
def mn : ByteArray := ⟨#[116, 104, 101]⟩
def iw : ByteArray := ⟨#[115, 101, 97]⟩
def xIs : ByteArray := ⟨#[105, 115]⟩
def mp : ByteArray := ⟨#[111, 108, 100]⟩
def sf : ByteArray := ⟨#[97, 110, 100]⟩
def exTx : ai := [⟨7, [[mn, iw, xIs, mp], [mp, mn, iw]]⟩, ⟨3, [[iw, sf, iw]]⟩]
def exPg : List aq := [⟨0, 0, 0, 0, [⟨0, 0, 0⟩], [⟨0, 0, 0⟩, ⟨0, 0, 3⟩]⟩, ⟨1, 2, 0, -1, [⟨0, 1, 1⟩], []⟩]
def exPr : af := ⟨exTx, [⟨1, 50⟩, ⟨2, 0⟩], [⟨3, 60⟩], exPg⟩
theorem uq : fa exPr (cj exPr) = 0 := by decide +kernel
theorem xp_words : pq exPr 1 = 6 ∧ ec exPr 1 = 0 ∧ pq exPr 0 = 4 ∧ ec exPr 0 = 0 := ⟨by decide +kernel, by decide +kernel, by decide +kernel, by decide +kernel⟩
theorem xp_found : ph exPr 0 = [⟨0, 0, 0⟩, ⟨0, 0, 3⟩] ∧ ru exPr 0 = [⟨0, 0, 0⟩] := ⟨by decide +kernel, by decide +kernel⟩
theorem xp_guess : n8 exPr 0 = ⟨2, 2⟩ ∧ m8 exPr 0 = 0 := ⟨by decide +kernel, by decide +kernel⟩
theorem xp_remain : n1 exPr 1 = ⟨0, 1⟩ ∧ fa exPr (ec exPr 1) = 0 ∧ n1 exPr 0 = ⟨0, 1⟩ ∧ fa exPr (ec exPr 0) = 0 := ⟨by decide +kernel, by decide +kernel, by decide +kernel, by decide +kernel⟩
theorem ugl : qq exPr = ⟨0, 1⟩ := by decide +kernel
theorem xp_why : nl exPr (g3 exPr) = [0] ∧ mr exPr (g3 exPr) = [] := ⟨by decide +kernel, by decide +kernel⟩
theorem xp_bound : oo exPr false 0 = 4 ∧ j4 exPr false 0 = 0 ∧ oo exPr false 1 = 0 ∧ j4 exPr false 1 = 0 ∧ oo exPr true 0 = 5 ∧ j4 exPr true 0 = 0 := ⟨by decide +kernel, by decide +kernel, by decide +kernel, by decide +kernel, by decide +kernel, by decide +kernel⟩
theorem xp_chief : jy exPr 0 = [0, 1] ∧ i0 exPr 0 = 0 ∧ jy exPr 1 = [] ∧ i0 exPr 1 = 0 := ⟨by decide +kernel, by decide +kernel, by decide +kernel, by decide +kernel⟩
theorem ugk : nk exPr = [1, 0] := by
 have h0 : fl exPr 0 = 1 := by
  have := Net.pick_alone (N := bk exPr) (R := cm exPr) (C := cy exPr) (j := 0) (by decide +kernel) (by decide +kernel)
  exact this.trans (by decide +kernel)
 have h1 : fl exPr 1 = 0 := by
  have e : fl exPr 1 = (bk exPr).pick ((bk exPr).lessR (cm exPr) 0 1) (dq (cy exPr) 0) 1 := by
   show (bk exPr).pick ((bk exPr).lessR (cm exPr) 0 (fl exPr 0)) (dq (cy exPr) 0) 1 = _
   rw [h0]
  have := Net.pick_alone (N := bk exPr) (R := (bk exPr).lessR (cm exPr) 0 1) (C := dq (cy exPr) 0) (j := 1) (by decide +kernel) (by decide +kernel)
  exact e.trans (this.trans (by decide +kernel))
 unfold nk
 rw [uq]
 show [fl exPr 0, fl exPr 1] = _
 rw [h0, h1]
end Go.AB
namespace Go.AB
open Go Go.RowKit
open Go.AB.Enc (cells)
open Go.PB (aw ai PlaceD bc bg bf bp aq af ci bn)
/-- who is found by one reader alone, so far -/
def f9 (F W : List PlaceD) (q : PlaceD) : Bool := decide (q ∈ F) != decide (q ∈ W)
theorem ukw (F : List PlaceD) (q : PlaceD) : f9 F [] q = decide (q ∈ F) := by simp [f9]
theorem x4 {l : List PlaceD} (h : l.Pairwise fun a b => eu (cv a) (cv b) < 0) : l.Nodup := h.imp fun {a b} hab e => by
 rw [ne (by rfl)] at hab
 subst e
 exact pa _ hab
theorem uhu {l : List PlaceD} (h : l.Nodup) {k : Nat} {q : PlaceD} (hq : l[k]? = some q) : q ∉ l.take k := fun hm => by
 obtain ⟨i, hi⟩ := List.getElem?_of_mem hm
 have hik : i < k := by have := (List.getElem?_eq_some_iff.1 hi).1; rw [List.length_take] at this; omega
 rw [List.getElem?_take_of_lt hik] at hi
 obtain ⟨h1, h2⟩ := List.getElem?_eq_some_iff.1 hi
 obtain ⟨h3, h4⟩ := List.getElem?_eq_some_iff.1 hq
 have := (List.pairwise_iff_getElem.1 h) i k h1 h3 hik
 exact this (h2.trans h4.symm)
/-- the place at hand is in the map if the first reader found it -/
theorem vr {F W : List PlaceD} (hW : W.Nodup) {k : Nat} {q : PlaceD} (hq : W[k]? = some q) : f9 F (W.take k) q = decide (q ∈ F) := by
 unfold f9
 rw [decide_eq_false (uhu hW hq)]
 cases decide (q ∈ F) <;> rfl
theorem ucq {F W : List PlaceD} (hW : W.Nodup) {k : Nat} {q : PlaceD} (hq : W[k]? = some q) (x : PlaceD) : f9 F (W.take (k + 1)) x = bif decide (x = q) then !decide (q ∈ F) else f9 F (W.take k) x := by
 have hm : decide (x ∈ W.take (k + 1)) = (decide (x ∈ W.take k) || decide (x = q)) := by
  rw [List.take_add_one, hq, Option.toList_some, Bool.eq_iff_iff]
  simp
 by_cases e : x = q
 ·subst e
  unfold f9
  rw [hm, decide_eq_true (rfl : x = x), Bool.or_true, cond_true]
  cases decide (x ∈ F) <;> rfl
 ·unfold f9
  rw [hm, decide_eq_false e, Bool.or_false, cond_false]
/-- what both found so far -/
def mi (F W : List PlaceD) (k : Nat) : List PlaceD := (W.take k).filter fun q => decide (q ∈ F)
theorem ufb {F W : List PlaceD} {k : Nat} {q : PlaceD} (hq : W[k]? = some q) : mi F W (k + 1) = mi F W k ++ bif decide (q ∈ F) then [q] else [] := by
 unfold mi
 rw [List.take_add_one, hq, Option.toList_some, List.filter_append]
 cases h : decide (q ∈ F) <;> simp [h]
theorem ufc (F W : List PlaceD) (k : Nat) : (mi F W k).length ≤ W.length := by
 unfold mi
 have := List.length_filter_le (fun q => decide (q ∈ F)) (W.take k)
 rw [List.length_take] at this
 omega
theorem un7 {p : af} {last : Int} {x : aq} (h : nj p last x) : mi x.found x.well x.well.length = dw p.text x := by
 have hs : (mi x.found x.well x.well.length).Pairwise fun a b => eu (cv a) (cv b) < 0 := by
  unfold mi
  rw [List.take_length]
  exact (wz h.well).filter _
 refine vd hs (w4 _) fun q => ?_
 unfold mi
 rw [List.take_length, List.mem_filter, decide_eq_true_eq]
 show _ ↔ q ∈ (dc p.text).filter _
 rw [List.mem_filter, Bool.and_eq_true, decide_eq_true_eq, decide_eq_true_eq, allQ_mem]
 exact ⟨fun ⟨h1, h2⟩ => ⟨(mb h.well h1).1, h2, h1⟩, fun ⟨_, h2, h3⟩ => ⟨h3, h2⟩⟩
/-- both's places, and those of one alone in any order, put in order: all that are found -/
theorem ufx {p : af} {last : Int} {x : aq} (h : nj p last x) {ks s : List PlaceD} (hn : ks.Nodup) (hk : ∀ q, q ∈ ks ↔ f9 x.found x.well q = true) (hp : s.Perm (dw p.text x ++ ks)) (hs : s.Pairwise fun a b => ¬ eu (cv b) (cv a) < 0) : s = dh p.text x := by
 have hmb : ∀ q, q ∈ dw p.text x ↔ q ∈ x.found ∧ q ∈ x.well := fun q => by
  show q ∈ (dc p.text).filter _ ↔ _
  rw [List.mem_filter, Bool.and_eq_true, decide_eq_true_eq, decide_eq_true_eq, allQ_mem]
  exact ⟨fun h => h.2, fun h2 => ⟨(mb h.well h2.2).1, h2⟩⟩
 have hko : ∀ q, f9 x.found x.well q = true ↔ (q ∈ x.found ∧ q ∉ x.well) ∨ (q ∉ x.found ∧ q ∈ x.well) := fun q => by
  unfold f9
  by_cases h1 : q ∈ x.found <;> by_cases h2 : q ∈ x.well <;> simp [h1, h2]
 have hnd : (dw p.text x ++ ks).Nodup := by
  rw [List.nodup_append]
  refine ⟨x4 (w4 _), hn, fun a ha b hb e => ?_⟩
  subst e
  have h1 := (hmb a).1 ha
  rcases (hko a).1 ((hk a).1 hb) with h2 | h2
  ·exact h2.2 h1.2
  ·exact h2.1 h1.1
 have hsn : s.Nodup := hp.nodup_iff.2 hnd
 have hs2 : s.Pairwise fun a b => eu (cv a) (cv b) < 0 := by
  have := List.Pairwise.and hs hsn
  refine this.imp fun {a b} hab => ?_
  rw [ne (by rfl)] at hab ⊢
  refine Classical.byContradiction fun hno => hab.2 ?_
  exact umg (y9 (by rfl) hno hab.1)
 refine vd hs2 (w4 _) fun q => ?_
 rw [hp.mem_iff, List.mem_append, hmb, hk, hko]
 show _ ↔ q ∈ (dc p.text).filter _
 rw [List.mem_filter, Bool.or_eq_true, decide_eq_true_eq, decide_eq_true_eq, allQ_mem]
 constructor
 ·rintro (⟨h1, h2⟩ | ⟨h1, _⟩ | ⟨_, h2⟩)
  ·exact ⟨(mb h.found h1).1, .inl h1⟩
  ·exact ⟨(mb h.found h1).1, .inl h1⟩
  ·exact ⟨(mb h.well h2).1, .inr h2⟩
 ·rintro ⟨_, h1 | h1⟩
  ·by_cases h2 : q ∈ x.well
   ·exact .inl ⟨h1, h2⟩
   ·exact .inr (.inl ⟨h1, h2⟩)
  ·by_cases h2 : q ∈ x.found
   ·exact .inl ⟨h2, h1⟩
   ·exact .inr (.inr ⟨h2, h1⟩)
/-! ### The words of a page, line by line -/
def fw (t : ai) (x : aq) (l : List PlaceD) : Nat := (l.filter (fe t x)).length
theorem uaw (t : ai) (x : aq) {k n : Nat} {c : aw} {l : List ByteArray} (hn : c.lines[n]? = some l) : fw t x (gk t k c.lines (n + 1)) = fw t x (gk t k c.lines n) + bif inB ((fm t k : Int) + (n : Int)) x.fr x.to then l.length else 0 := by
 have e : gk t k c.lines (n + 1) = gk t k c.lines n ++ (jq k n l).map (·.1) := by
  unfold gk
  rw [uaa k hn, List.map_append, List.append_assoc]
 unfold fw
 rw [e, List.filter_append, List.length_append]
 congr 1
 have hall : ∀ q ∈ (jq k n l).map (·.1), fe t x q = inB ((fm t k : Int) + (n : Int)) x.fr x.to := fun q hq => by
  obtain ⟨y, hy, rfl⟩ := List.mem_map.1 hq
  obtain ⟨w, hw, rfl⟩ := List.mem_mapIdx.1 hy
  show inB (p8 t ⟨(k : Int), (n : Int), (w : Int)⟩) x.fr x.to = _
  unfold p8
  dsimp only
  rw [Int.toNat_natCast, Int.add_comm]
 have hlen : ((jq k n l).map (·.1)).length = l.length := by rw [List.length_map]; unfold jq; rw [List.length_mapIdx]
 cases hb : inB ((fm t k : Int) + (n : Int)) x.fr x.to
 ·rw [List.filter_eq_nil_iff.2 fun q hq => by rw [hall q hq, hb]; simp]; rfl
 ·rw [List.filter_eq_self.2 fun q hq => by rw [hall q hq, hb], hlen]; rfl
theorem ugy (t : ai) (x : aq) : fw t x (dc t) = ei t x := rfl
end Go.AB
namespace Go.AB
open Go Go.RowKit
open Go.AB.Enc (cells)
open Go.PB (aw ai PlaceD bc bg bf bp aq af ci bn)
section
variable {N : Net} {R C : Nat → Int}
theorem Net.Feas.congr {y z : Nat → Int} (h : N.Feas R C y) (e : ∀ j, j < N.np → y j = z j) : N.Feas R C z := by
 refine ⟨fun j hj => by rw [← e j hj]; exact h.page j hj, fun i hi => ?_⟩
 have : sm N.np (fun j => bif N.by j i then z j else 0) = sm N.np (fun j => bif N.by j i then y j else 0) := ia fun j hj => by rw [e j hj]
 rw [this]
 exact h.rd i hi
/-- less may remain -/
theorem Net.Feas.down {y z : Nat → Int} (h : N.Feas R C y) (e : ∀ j, j < N.np → 0 ≤ z j ∧ z j ≤ y j) : N.Feas R C z := by
 refine ⟨fun j hj => ⟨(e j hj).1, Int.le_trans (e j hj).2 (h.page j hj).2⟩, fun i hi => Int.le_trans (ms fun j hj => ?_) (h.rd i hi)⟩
 cases N.by j i
 ·exact Int.le_refl _
 ·exact (e j hj).2
theorem Net.feas_zero (hR : ∀ i, i < N.nr → 0 ≤ R i) (hC : ∀ j, j < N.np → 0 ≤ C j) : N.Feas R C fun _ => 0 := by
 refine ⟨fun j hj => ⟨Int.le_refl _, hC j hj⟩, fun i hi => ?_⟩
 have : sm N.np (fun j => bif N.by j i then (0 : Int) else 0) = 0 := (ia (h := fun _ => 0) fun j _ => by cases N.by j i <;> rfl).trans (l6 _)
 rw [this]
 exact hR i hi
theorem Net.alone_nn (hN : N.Ok) {i : Nat} (hi : i < N.np) (hR : ∀ i, i < N.nr → 0 ≤ R i) (hC : ∀ j, j < N.np → 0 ≤ C j) : 0 ≤ N.alone R C i := Net.le_alone.2 ⟨hC i hi, fun r hr => hR r (hN.by_lt hr)⟩
end
theorem uaz {p : af} (h : dz p) (y : Nat → Int) : jf p (bh p.pages.length fun j => c7 p j + y j) = true ↔ (bk p).Feas (cm p) (cy p) y := by
 have e : ∀ j, j < p.pages.length → gx (bh p.pages.length fun j => c7 p j + y j) j - c7 p j = y j := fun j hj => by
  rw [uhv _ hj]; omega
 rw [uhi h]
 exact ⟨fun k => k.2.congr e, fun k => ⟨gu _ _, k.congr fun j hj => (e j hj).symm⟩⟩
/-- without a truth nothing that is told is one -/
theorem uhm {p : af} (h : dz p) : jf p (bh p.pages.length (c7 p)) = g4 p := by
 have e : (c7 p) = fun j => c7 p j + (fun _ => (0 : Int)) j := by funext j; simp
 rw [Bool.eq_iff_iff, e, uaz h]
 constructor
 ·intro k
  refine List.all_eq_true.2 fun i hi => decide_eq_true ?_
  have := k.rd i (List.mem_range.1 hi)
  rwa [(ia (h := fun _ => 0) fun j _ => by cases (bk p).by j i <;> rfl).trans (l6 _)] at this
 ·exact fun k => Net.feas_zero (qp k) fun j _ => qf h j
end Go.AB
namespace Go.PB
structure cx where
 readers : List Int
 pages : List Int
 read : List (List Int)
/-- the reference's: readers and pages alone -/
structure cz where
 readers : List Int
 pages : List Int
end Go.PB
namespace Go.AB
open Go Go.RowKit
open Go.AB.Enc (cells)
open Go.PB (aw ai PlaceD bc bg bf bp aq af ci bn cx cz)
instance : Enc cx := ⟨fun x => [lst x.readers, lst x.pages, lst x.read], 3, fun _ => rfl, fun m x c h => by
 simp only [List.mem_cons, List.not_mem_nil, or_false] at h
 rcases h with rfl | rfl | rfl
 ·exact br m _
 ·exact br m _
 ·exact br m _, fun x c h => by
 simp only [List.mem_cons, List.not_mem_nil, or_false] at h; rcases h with rfl | rfl | rfl <;> rfl⟩
def f8 (p : af) (R C : Nat → Int) : cx := ⟨bh (bx p) R, bh p.pages.length C, p.pages.map (di p)⟩
/-- numbers that no sum of takes too far -/
structure Bd (p : af) (R C : Nat → Int) : Prop where
 r : ∀ i, -1000000 ≤ R i ∧ R i ≤ 1000000
 c : ∀ j, 0 ≤ C j ∧ C j ≤ 1000000
 nr : bx p ≤ 6
 np : p.pages.length ≤ 8
theorem uj {p : af} (h : dz p) : Bd p (cm p) (cy p) := ⟨fun i => by have := ul3 h i; omega, fun j => by have := xa h j; omega, by have := h.nf; have := h.ns; unfold bx; omega, h.np⟩
/-- what some first readers of a set have -/
def fR (R : Nat → Int) (S : Nat → Bool) (i : Nat) : Int := sm i fun k => bif S k then R k else 0
def fC (p : af) (C : Nat → Int) (S : Nat → Bool) (j : Nat) : Int := sm j fun k => bif (bk p).hit S k then 0 else C k
theorem uej (p : af) (R C : Nat → Int) (S : Nat → Bool) : (bk p).f R C S = fR R S (bx p) + fC p C S p.pages.length := rfl
theorem x6 {g : Nat → Int} {m : Int} (h : ∀ i, -m ≤ g i ∧ g i ≤ m) : ∀ n : Nat, -(n * m) ≤ sm n g ∧ sm n g ≤ n * m
 | 0 => by simp [sm]
 | n + 1 => by
  have h1 := x6 h n
  have h2 := h n
  have e : ((n + 1 : Nat) : Int) * m = (n : Int) * m + m := by rw [Int.natCast_add, Int.add_mul]; simp
  simp only [sm]
  omega
theorem zv {p : af} {R C : Nat → Int} (h : Bd p R C) (S : Nat → Bool) (i : Nat) (hi : i ≤ bx p) : -6000000 ≤ fR R S i ∧ fR R S i ≤ 6000000 := by
 have := x6 (g := fun k => bif S k then R k else 0) (m := 1000000) (fun k => by cases S k; simp; exact h.r k) i
 have := h.nr
 unfold fR
 omega
theorem ueo {p : af} {R C : Nat → Int} (h : Bd p R C) (S : Nat → Bool) (j : Nat) (hj : j ≤ p.pages.length) : 0 ≤ fC p C S j ∧ fC p C S j ≤ 8000000 := by
 have h1 := x6 (g := fun k => bif (bk p).hit S k then 0 else C k) (m := 1000000) (fun k => by have := h.c k; cases (bk p).hit S k; simp; omega; simp) j
 have h2 := ve (n := j) (g := fun k => bif (bk p).hit S k then 0 else C k) fun k _ => by have := h.c k; cases (bk p).hit S k; exact this.1; exact Int.le_refl _
 have := h.np
 unfold fC
 omega
theorem f_bd {p : af} {R C : Nat → Int} (h : Bd p R C) (S : Nat → Bool) : -6000000 ≤ (bk p).f R C S ∧ (bk p).f R C S ≤ 14000000 := by
 have h1 := zv h S _ (Nat.le_refl _)
 have h2 := ueo h S _ (Nat.le_refl _)
 rw [uej]
 omega
theorem udc {g : Nat → Int} {a b : Int} (h : ∀ s, a ≤ g s ∧ g s ≤ b) (k : Nat) : a ≤ lm g k ∧ lm g k ≤ b := by
 obtain ⟨s, _, e⟩ := y6 (g := g) k
 rw [e]
 exact h s
theorem uc5 {p : af} {R C : Nat → Int} (h : Bd p R C) : -6000000 ≤ (bk p).most R C ∧ (bk p).most R C ≤ 14000000 := udc (fun s => f_bd h _) _
end Go.AB
namespace Go.AB
open Go Go.RowKit
open Go.AB.Enc (cells)
section
variable {P : Program} {o : Oper} {st : St} {K : St → Prop}
end
end Go.AB
namespace Go.AB
open Go Go.RowKit Go.Shelf Go.Proofs
open Go.AB.Enc (cells)
section
variable {P : Program} {o : Oper} {st : St} {K : St → Prop}
theorem uko {E : Env} {w : World} {v : Value} {n ver len : Nat} (hp : R E w (.own n ver len) v) : ∃ a cap, v = .slice a len cap ∧ n < E.nx ∧ len ≤ cap ∧ cap ≤ maxLen ∧ ∀ ver' wv val, E.T n = some (ver', wv, val) → ver ≤ ver' ∧ (ver = ver' → ∃ m, len ≤ m ∧ val = .slice a m cap) := by
 cases hp with
 | own h1 h2 h3 h4 => exact ⟨_, _, rfl, h1, h2, h3, h4⟩
/-- append of nothing onto an own slice. -/
theorem ulf {t e : TypeId} {sz bytes n ver m : Nat} [AppT P t e sz bytes] {s x : Operand} {tk : Tok} (ho : o.op = .call { callee := .builtin .append, args := #[s, x], argTypes := #[t, t] }) (hs : evC st s = .own n ver m) (hx : evC st x = .list [] tk) : NStep P o st (.own n ver m) := fun E w a hsim => by
 obtain ⟨ht, i, z, hie, hz, h1, h2, h3⟩ := AppT.spec (P := P) (t := t) (e := e) (sz := sz) (bytes := bytes)
 have hown := hs ▸ hsim.ev s
 obtain ⟨ad, cap, e1, q1, q2, q3, q4⟩ := uko hown
 obtain ⟨ao, c, _, _, e3, _⟩ := (hx ▸ hsim.ev x).list_inv
 refine ⟨a.eval s, hown, fun w' => ?_⟩
 have hrun := sv (P := P) w' t o.type e i ht hie ad ao m cap c q2
 simp only [execOp, ho, resolve, invoke, builtin, Sem.run_bind, Sem.run_pure, Result.andThen_ok, List.map_toArray, List.map_cons, List.map_nil, e1, e3]
 rw [List.length_nil] at *
 rw [hrun]; rfl
/-- append of data onto an own slice. -/
theorem ug {α : Type} [Enc α] {t e : TypeId} {bytes n ver wv : Nat} [AppT P t e (Enc.n α) bytes] {s x : Operand} {tk : Tok} {rows : List (List C)} {xs : List α} {m : Nat} {cs : List C} (ys : List α) (ho : o.op = .call { callee := .builtin .append, args := #[s, x], argTypes := #[t, t] }) (hs : evC st s = .own n ver m) (hG : st.G n = some (.arr ver wv e (Enc.n α) m cs)) (hc : cs = cp xs) (hm : m = xs.length) (hx : evC st x = .list rows tk) (hy : rows = ys.map cells) (hb : (xs.length + ys.length) * bytes ≤ 140737488355328) (hmax : xs.length + ys.length ≤ 9223372036854775807)
  (h : ∀ v : Nat, K (St.put { st with G := ak st.G n (.arr v wv e (Enc.n α) (xs ++ ys).length (cp (xs ++ ys))) } o.dst (.own n v (xs ++ ys).length))) : EStep P o st K := by
 subst hc; subst hm; subst hy
 by_cases h0 : ys = []
 ·subst h0
  have h1 := h ver
  simp only [List.append_nil] at h1
  have h2 : ak st.G n (.arr ver wv e (Enc.n α) xs.length (cp xs)) = st.G := by
   funext k
   simp only [ak]
   split
   ·rename_i e; rw [e, hG]
   ·rfl
  rw [h2] at h1
  exact SStep.e' (NStep.s (D := fun _ => True) (ulf ho hs hx)) h1
 ·refine uni ho hs hG hx (lp ys) (by simpa using hb) (by simpa using hmax) (by simpa using h0) ?_
  have h1 := h (ver + 1)
  rw [ued] at h1
  simpa [cp] using h1
end
end Go.AB
namespace Go.AB
open Go Go.RowKit
open Go.AB.Enc (cells)
open Go.PB (aw ai PlaceD bc bg bf bp aq af ci bn cx cz)
/-- the first of some numbers that is not nought -/
def orN (xs : List Int) : Int := (xs.find? fun x => !decide (x = 0)).getD 0
theorem ukq {xs : List Int} {k : Nat} {x : Int} (hx : xs[k]? = some x) (hne : x ≠ 0) (h : ∀ y ∈ xs.take k, y = 0) : orN xs = x := by
 unfold orN
 rw [List.find?_eq_some_iff_append.2 ⟨by simpa using hne, xs.take k, xs.drop (k + 1), ?_, fun y hy => by simp [h y hy]⟩]
 ·rfl
 obtain ⟨h1, h2⟩ := List.getElem?_eq_some_iff.1 hx
 rw [← h2, ← List.drop_eq_getElem_cons h1, List.take_append_drop]
theorem uks {xs : List Int} (h : ∀ y ∈ xs, y = 0) : orN xs = 0 := by
 unfold orN
 rw [List.find?_eq_none.2 fun y hy => by simp [h y hy]]
 rfl
theorem ulk {α : Type} {l : List α} {k : Nat} {x : α} {p : α → Prop} (hx : l[k]? = some x) (hp : p x) (h : ∀ y ∈ l.take k, p y) : ∀ y ∈ l.take (k + 1), p y := fun y hy => by
 rw [List.take_add_one, hx] at hy
 simp only [Option.toList_some, List.mem_append, List.mem_singleton] at hy
 rcases hy with hy | rfl
 ·exact h y hy
 exact hp
def ll (a b : PlaceD) : Int := eu (cv a) (cv b)
theorem ukr (a b : PlaceD) : orN [g9 a.ch b.ch, g9 a.ln b.ln, g9 a.wd b.wd] = ll a b := by
 unfold orN ll cv
 simp only [eu]
 by_cases h1 : g9 a.ch b.ch = 0
 ·by_cases h2 : g9 a.ln b.ln = 0
  ·by_cases h3 : g9 a.wd b.wd = 0 <;> simp [h1, h2, h3]
  simp [h1, h2]
 simp [h1]
/-- the order of lists, shorter ones first -/
def x8 (a b : List Int) : Int := orN [(a.length : Int) - (b.length : Int), eu a b]
theorem vg (a b : List Int) : decide (x8 a b < 0) = ip a b := by
 unfold x8 orN ip
 by_cases h1 : (a.length : Int) - (b.length : Int) = 0
 ·have h2 : a.length = b.length := by omega
  have h3 : ¬ a.length < b.length := by omega
  by_cases h4 : eu a b = 0
  ·simp [h2, h4]
  simp [h2, h4]
 have h2 : ¬ a.length = b.length := by omega
 by_cases h3 : a.length < b.length
 ·have : (a.length : Int) - (b.length : Int) < 0 := by omega
  simp [h1, h2, h3, this]
 have : ¬ (a.length : Int) - (b.length : Int) < 0 := by omega
 simp [h1, h2, h3, this]
def l5 (t : ai) (k : Nat) : List Int := (List.range k).map fun i => (fm t i : Int)
theorem ua7 (t : ai) (k : Nat) : (l5 t k).length = k := by simp [l5]
theorem ua8 {t : ai} {k i : Nat} (h : i < k) : (l5 t k)[i]? = some (fm t i : Int) := by simp [l5, h]
theorem uib (t : ai) (k : Nat) : l5 t (k + 1) = l5 t k ++ [(fm t k : Int)] := by
 unfold l5
 rw [List.range_succ, List.map_append]; rfl
theorem u9 {t : ai} (ht : dg t = true) (k : Nat) (hk : k ≤ t.length) : fm t k ≤ 60 := by
 obtain ⟨h1, h2, h3⟩ := km ht
 have key : ∀ k, k ≤ t.length → fm t k ≤ 10 * k := by
  intro k
  induction k with
  | zero => intro _; rw [ua9]; exact Nat.zero_le _
  | succ k ih =>
   intro hk
   have hc : t[k]? = some t[k] := List.getElem?_eq_getElem (by omega)
   rw [sn hc]
   have := ih (by omega)
   have := (h3 _ (fu hc)).2.1
   omega
 have := key k hk
 omega
end Go.AB
namespace Go.Proofs.YtbbdginipiljdaaGreatDoor
set_option maxRecDepth 10000
open Go.RowKit Go.AB
open Go.AB.Enc (cells)
open Go.PB (aw ai PlaceD bc bg bf bp aq af ci bn cx cz)
theorem uch (xs : List Int) : Pure Tryz.prog 92 [lst xs] (.v (.int .i64 (orN xs))) := by
 refine co Tryz.func92 rfl (fun m => .v) fun G nx => ?_
 simp only [Tryz.ntmps92, List.length_cons, List.length_nil, Nat.reduceAdd, Nat.reduceSub]
 refine bq fun hlt => ?_
 dsimp only at hlt
 refine kf 0 (fun hf => ?_)
 replace hf := (fit_lst.1 hf).1
 refine yS fun _ K1 => ?_
 refine yR ?_
 refine yA rfl rfl ?_
 refine yN ?_
 dsimp only [St.put]
 refine K1 _ ?_
 refine yS fun _ K2 => ?_
 refine yR ?_
 refine yA rfl rfl ?_
 refine yN ?_
 dsimp only [St.put]
 refine K2 _ ?_
 refine yS fun _ K3 => ?_
 refine yS fun _ K4 => ?_
 refine yR ?_
 refine yM rfl rfl ?_
 refine aa rfl (bd rfl rfl (List.length_map _)) ?_
 refine yM rfl rfl ?_
 refine yN ?_
 dsimp only [St.put]
 refine K4 _ ?_
 refine az ?_
 refine cb 9 ?_
 refine zQ ?_
 refine ct (G) zX ?_
 dsimp only
 refine cr (X := Nat) (fun k => k ≤ xs.length ∧ ∀ y ∈ xs.take k, y = 0) (fun k => xs.length - k) (fun k => [(4, .any), (5, .any), (8, .v (.int .i64 (k : Int)))]) (fun k G' => G') 0 rfl ?_ ?_ (fun _ _ h => h) ?_ ?_ ?_
 ·exact ⟨by simp, by simp⟩
 ·exact zF
 ·rintro k hI
  exact zL
 ·exact fun _ _ _ _ h => .inl h
 rintro k hI
 dsimp only at hI ⊢
 refine yS fun _ K5 => ?_
 refine yR ?_
 refine aa rfl (ca rfl rfl rfl) ?_
 refine yN ?_
 dsimp only [St.put]
 refine K5 _ ?_
 refine yS fun _ K6 => ?_
 refine am rfl (fun hc => ?_) (fun hc => ?_)
 ·replace hc := of_decide_eq_true hc
  obtain ⟨x, hx⟩ : ∃ x, xs[k]? = some x := cw (by omega)
  refine av ?_
  refine K6 _ ?_
  refine yS fun _ K7 => ?_
  refine az ?_
  refine yS fun _ K8 => ?_
  refine yR ?_
  refine aa rfl (bj rfl rfl rfl rfl (bi (by assumption)) (Enc.len _)) ?_
  refine yL rfl rfl rfl ?_
  refine yA rfl rfl ?_
  refine yN ?_
  dsimp only [St.put]
  refine K8 _ ?_
  refine yS fun _ K9 => ?_
  refine yR ?_
  refine yM rfl rfl ?_
  refine yM rfl rfl ?_
  refine aa rfl (fb rfl rfl rfl) ?_
  refine yN ?_
  dsimp only [St.put]
  refine K9 _ ?_
  refine am rfl (fun hc => ?_) (fun hc => ?_)
  ·replace hc := jj hc
   refine yS fun _ K10 => ?_
   refine yR ?_
   refine yM rfl rfl ?_
   refine yA rfl rfl ?_
   refine yN ?_
   dsimp only [St.put]
   refine K10 _ ?_
   refine ar ?_
   refine ba rfl (by constructor) zN zS ?_
   exact vi (ukq hx hc hI.2).symm
  replace hc := g6 hc
  refine av ?_
  refine K7 _ ?_
  refine yR ?_
  refine aa rfl (bl rfl rfl rfl (by omega)) ?_
  refine yM rfl rfl ?_
  refine yN ?_
  dsimp only [St.put]
  exact ⟨k + 1, by omega, ⟨by omega, ulk hx hc hI.2⟩, ⟨⟨rfl, rfl⟩, zF, zB, zN, zX⟩⟩
 try replace hc := of_decide_eq_false hc
 refine cn ?_
 refine K3 _ ?_
 refine yS fun _ K11 => ?_
 refine yR ?_
 refine yM rfl rfl ?_
 refine yA rfl rfl ?_
 refine yN ?_
 dsimp only [St.put]
 refine K11 _ ?_
 refine ar ?_
 refine ba rfl (by constructor) zN zS ?_
 exact vi (by
  rw [uks]
  have := hI.2
  rwa [f5 (by omega)] at this)
theorem ukg (n lo hi : Int) : Pure Tryz.prog 96 [.v (.int .i64 n), .elem [.v (.int .i64 lo)], .elem [.v (.int .i64 hi)]] (.v (.bool (l8 n lo hi))) := by
 refine co Tryz.func96 rfl (fun m => .v) fun G nx => ?_
 simp only [Tryz.ntmps96, List.length_cons, List.length_nil, Nat.reduceAdd, Nat.reduceSub]
 refine bq fun hlt => ?_
 dsimp only at hlt
 refine yS fun _ K1 => ?_
 refine yR ?_
 refine yA rfl rfl ?_
 refine yN ?_
 dsimp only [St.put]
 refine K1 _ ?_
 refine yS fun _ K2 => ?_
 refine yR ?_
 refine yM rfl rfl ?_
 refine yL rfl rfl rfl ?_
 refine aa rfl (ca rfl rfl rfl) ?_
 refine ed (fun hs => ?_) (fun hs => ?_)
 ·try replace hs := of_decide_eq_true hs
  refine yM rfl rfl ?_
  refine yK rfl ?_
  refine yK rfl ?_
  refine yK rfl ?_
  refine aa rfl (bu rfl rfl (by constructor)) ?_
  refine yA rfl rfl ?_
  refine yN ?_
  dsimp only [St.put]
  refine K2 _ ?_
  refine ar ?_
  refine ba rfl (by constructor) zN zS ?_
  exact vb (by simp [l8, hs]; try omega)
 try replace hs := of_decide_eq_false hs
 refine yM rfl rfl ?_
 refine yM rfl rfl ?_
 refine yL rfl rfl rfl ?_
 refine aa rfl (gp rfl rfl rfl) ?_
 refine aa rfl (cd rfl rfl (by constructor)) ?_
 refine yA rfl rfl ?_
 refine yN ?_
 dsimp only [St.put]
 refine K2 _ ?_
 refine ar ?_
 refine ba rfl (by constructor) zN zS ?_
 exact vb (by simp [l8, hs]; try omega)
theorem my (lo hi : Int) (xs : List Int) : Pure Tryz.prog 76 [.v (.int .i64 lo), .v (.int .i64 hi), lst xs] (.v (.bool (wr lo hi xs))) := by
 refine co Tryz.func76 rfl (fun m => .v) fun G nx => ?_
 simp only [Tryz.ntmps76, List.length_cons, List.length_nil, Nat.reduceAdd, Nat.reduceSub]
 refine bq fun hlt => ?_
 dsimp only at hlt
 refine yS fun _ K1 => ?_
 refine yR ?_
 try dsimp only [St.put]
 refine yB rfl rfl rfl ?_
 try dsimp only [St.put]
 refine yB rfl rfl rfl ?_
 refine yA rfl rfl ?_
 refine yN ?_
 dsimp only [St.put]
 refine K1 _ ?_
 refine yS fun _ K2 => ?_
 refine yR ?_
 refine yM rfl rfl ?_
 refine aa rfl (py rfl rfl) ?_
 try dsimp only [St.put]
 refine ae rfl (ay rfl rfl rfl (xi xs (fun n => l8 n lo hi) _ _ fun x _ => ukg x lo hi) ?_)
 refine aa rfl (dl rfl rfl) ?_
 refine yA rfl rfl ?_
 refine yN ?_
 dsimp only [St.put]
 refine K2 _ ?_
 refine ar ?_
 refine ba rfl (by constructor) zN zS ?_
 rfl
theorem ym (a b : PlaceD) : Pure Tryz.prog 84 [val a, val b] (.v (.int .i64 (ll a b))) := by
 refine co Tryz.func84 rfl (fun m => .v) fun G nx => ?_
 simp only [Tryz.ntmps84, List.length_cons, List.length_nil, Nat.reduceAdd, Nat.reduceSub]
 refine bq fun hlt => ?_
 dsimp only at hlt
 refine yS fun _ K1 => ?_
 refine yR ?_
 try dsimp only [St.put]
 refine yB rfl rfl rfl ?_
 try dsimp only [St.put]
 refine yB rfl rfl rfl ?_
 refine yA rfl rfl ?_
 refine yN ?_
 dsimp only [St.put]
 refine K1 _ ?_
 refine yS fun _ K2 => ?_
 refine fk [(0, none), (1, none), (2, none), (3, none), (5, none), (6, none), (7, none), (8, none), (10, none), (11, none), (12, none), (13, none), (4, none), (9, none), (14, none), (15, none), (16, none), (17, none)] (fun i => [14, 15, 16].contains i) (fun i => [4, 9, 14, 15, 16].contains i) (fun i => [0, 2, 5, 7, 10, 12, 17].contains i) [] (by kernel_rfl) (by kernel_rfl) ?_
 refine ah rfl rfl rfl rfl (ce rfl rfl rfl) ?_
 try dsimp only [St.put]
 refine ax rfl rfl rfl rfl (bv rfl rfl) ?_
 refine ah rfl rfl rfl rfl (ce rfl rfl rfl) ?_
 try dsimp only [St.put]
 refine ax rfl rfl rfl rfl (bv rfl rfl) ?_
 refine ah rfl rfl rfl rfl (ce rfl rfl rfl) ?_
 try dsimp only [St.put]
 refine ax rfl rfl rfl rfl (bv rfl rfl) ?_
 refine ah rfl rfl rfl rfl (ce rfl rfl rfl) ?_
 try dsimp only [St.put]
 refine ax rfl rfl rfl rfl (bv rfl rfl) ?_
 refine ah rfl rfl rfl rfl (ce rfl rfl rfl) ?_
 try dsimp only [St.put]
 refine ax rfl rfl rfl rfl (bv rfl rfl) ?_
 refine ah rfl rfl rfl rfl (ce rfl rfl rfl) ?_
 try dsimp only [St.put]
 refine ax rfl rfl rfl rfl (bv rfl rfl) ?_
 refine gw ?_
 try dsimp only [St.put]
 refine i1 rfl rfl rfl (ay rfl rfl rfl (w8 _ _) ⟨zD, ?_⟩)
 try dsimp only [St.put]
 refine i1 rfl rfl rfl (ay rfl rfl rfl (w8 _ _) ⟨zD, ?_⟩)
 try dsimp only [St.put]
 refine gr rfl rfl rfl rfl (ay rfl rfl rfl (w8 _ _) ?_)
 try dsimp only [St.put]
 refine gr rfl rfl rfl rfl (dp rfl rfl rfl (by decide) (by decide) zR (by decide) ?_)
 try dsimp only [St.put]
 refine gr rfl rfl rfl rfl (ay rfl rfl rfl (uch [g9 a.ch b.ch, g9 a.ln b.ln, g9 a.wd b.wd]) ?_)
 refine dd rfl rfl rfl rfl (et rfl (by constructor)) ?_
 refine gl ?_
 dsimp only [St.put]
 refine K2 _ ?_
 refine ar ?_
 refine ba rfl (by constructor) zN zS ?_
 exact vi (ukr a b)
theorem ukc (a b : List Int) (ha : a.length ≤ 1000) (hb : b.length ≤ 1000) : Pure Tryz.prog 57 [lst a, lst b] (.v (.int .i64 (x8 a b))) := by
 refine co Tryz.func57 rfl (fun m => .v) fun G nx => ?_
 simp only [Tryz.ntmps57, List.length_cons, List.length_nil, Nat.reduceAdd, Nat.reduceSub]
 refine bq fun hlt => ?_
 dsimp only at hlt
 refine yS fun _ K1 => ?_
 refine yR ?_
 refine yA rfl rfl ?_
 refine yN ?_
 dsimp only [St.put]
 refine K1 _ ?_
 refine yS fun _ K2 => ?_
 refine yR ?_
 refine yM rfl rfl ?_
 refine aa rfl (bd rfl rfl (List.length_map _)) ?_
 refine yM rfl rfl ?_
 refine aa rfl (bd rfl rfl (List.length_map _)) ?_
 refine aa rfl (fq rfl rfl rfl (by omega)) ?_
 refine yM rfl rfl ?_
 refine yM rfl rfl ?_
 try dsimp only [St.put]
 refine ae rfl (ay rfl rfl rfl (unn a b ha hb) ?_)
 try dsimp only [St.put]
 refine ae rfl (dp rfl rfl rfl (by decide) (by decide) zR (by decide) ?_)
 try dsimp only [St.put]
 refine ae rfl (ay rfl rfl rfl (uch [(a.length : Int) - (b.length : Int), eu a b]) ?_)
 refine yA rfl rfl ?_
 refine yN ?_
 dsimp only [St.put]
 refine K2 _ ?_
 refine ar ?_
 refine ba rfl (by constructor) zN zS ?_
 rfl
theorem ukb (t : ai) (q : PlaceD) (ht : dg t = true) : Pure Tryz.prog 83 [g5 t, val q] (.v (.bool (fh t q))) := by
 refine co Tryz.func83 rfl (fun m => .v) fun G nx => ?_
 simp only [Tryz.ntmps83, List.length_cons, List.length_nil, Nat.reduceAdd, Nat.reduceSub]
 refine bq fun hlt => ?_
 dsimp only at hlt
 obtain ⟨hl1, hl2, hl3⟩ := km ht
 refine yS fun _ K1 => ?_
 refine yR ?_
 try dsimp only [St.put]
 refine yB rfl rfl rfl ?_
 try dsimp only [St.put]
 refine yB rfl rfl rfl ?_
 refine yA rfl rfl ?_
 refine yN ?_
 dsimp only [St.put]
 refine K1 _ ?_
 refine yS fun _ K2 => ?_
 refine cb 5 ?_
 refine zQ ?_
 refine j0 (X := Bool) (fun b => b = !(gt t (q.ch, q.ln)).isSome) (fun b => [(29, .v (.bool b))]) (fun b G' => G') rfl ?_ (fun _ _ _ _ h => .inl h) ?_ ?_
 ·rintro b hI
  exact zL
 ·refine rx [(0, none), (1, none), (2, none), (3, none), (4, none), (5, none)] (fun _ => false) (fun i => [0, 2, 3, 4].contains i) 19 (rl [6, 19]) (by kernel_rfl) (by kernel_rfl) ?_
  refine ah rfl rfl rfl rfl (ce rfl rfl rfl) ?_
  try dsimp only [St.put]
  refine ax rfl rfl rfl rfl (bv rfl rfl) ?_
  refine ah rfl rfl rfl rfl (bd rfl rfl (List.length_map _)) ?_
  refine ah rfl rfl rfl rfl (fq rfl rfl rfl (by omega)) ?_
  refine ah rfl rfl rfl rfl (ce rfl rfl rfl) ?_
  try dsimp only [St.put]
  refine ax rfl rfl rfl rfl (bv rfl rfl) ?_
  refine cg ?_
  refine du [6] (by kernel_rfl) (by simp) ?_
  refine dt ?_ ?_
  ·try dsimp only [St.put]
   refine iq rfl rfl rfl (dp rfl rfl rfl (by decide) (by decide) zR (by decide) ?_)
   refine du [7] (by kernel_rfl) (by simp) ?_
   refine dt ?_ ?_
   ·try dsimp only [St.put]
    refine iq rfl rfl rfl (ay rfl rfl rfl (my _ _ [_]) ?_)
    refine ef [(8, none), (9, none), (10, none), (11, none), (12, none), (13, none), (14, none), (15, none), (16, none), (17, none), (18, none), (19, none), (20, none)] (fun i => [8, 9, 10, 12, 14, 15, 17, 18, 19].contains i) 4 (rl [21, 4]) (by kernel_rfl) ?_
    refine ah rfl rfl rfl rfl (dl rfl rfl) ?_
    refine xM rfl rfl rfl rfl rfl ?_
    refine i7 (fun hs => ?_) (fun hs => ?_)
    ·have h8 : inB q.ch 0 ((t.length : Int) - 1) = false := by rw [ga] at hs; simpa using hs
     refine aj rfl rfl rfl ?_
     refine aj rfl rfl rfl ?_
     refine aj rfl rfl rfl ?_
     refine aj rfl rfl rfl ?_
     refine aj rfl rfl rfl ?_
     refine aj rfl rfl rfl ?_
     refine aj rfl rfl rfl ?_
     refine aj rfl rfl rfl ?_
     refine aj rfl rfl rfl ?_
     refine aj rfl rfl rfl ?_
     refine aj rfl rfl rfl ?_
     refine cg ?_
     refine du [21] (by kernel_rfl) (by simp) ?_
     refine dt ?_ ?_
     ·refine f3 rfl rfl rfl ?_
      refine du [22] (by kernel_rfl) (by simp) ?_
      refine dt ?_ ?_
      ·refine f3 rfl rfl rfl ?_
       refine ef [(23, none), (24, none)] (fun i => [23, 24].contains i) 0 (rl [25]) (by kernel_rfl) ?_
       refine aj rfl rfl rfl ?_
       refine ah rfl rfl rfl rfl (bu rfl rfl (by constructor)) ?_
       refine cg ?_
       dsimp only [St.put]
       refine il (by kernel_rfl) ?_
       refine ⟨_, ?_, ⟨⟨rfl, rfl⟩, zF, zB, zN, zX⟩⟩
       rw [uw]
       (simp [h8]; done)
      exact dr
     exact dr
    have h8 : inB q.ch 0 ((t.length : Int) - 1) = true := by rw [ga] at hs; simpa using hs
    have hn1' := h8
    simp only [inB_true] at hn1'
    obtain ⟨c, hcx⟩ : ∃ c, t[q.ch.toNat]? = some c := cw (by omega)
    have hnl : kr t q.ch = c.lines.length := by simp [kr, hcx]
    have hll := (hl3 c (fu hcx)).2.1
    have hch : q.ch = ((q.ch.toNat : Nat) : Int) := by omega
    refine ah rfl rfl rfl rfl (ce rfl rfl rfl) ?_
    try dsimp only [St.put]
    refine ax rfl rfl rfl rfl (bv rfl rfl) ?_
    refine ah rfl rfl rfl rfl (ce rfl rfl rfl) ?_
    try dsimp only [St.put]
    refine ax rfl rfl rfl rfl (bv rfl rfl) ?_
    try dsimp only [St.put]
    refine ah rfl rfl rfl rfl (bj rfl rfl rfl (by omega) (bi (by assumption)) (Enc.len _)) ?_
    refine ah rfl rfl rfl rfl (ce rfl rfl rfl) ?_
    try dsimp only [St.put]
    refine ax rfl rfl rfl rfl (bv rfl rfl) ?_
    refine ah rfl rfl rfl rfl (bd rfl rfl (List.length_map _)) ?_
    refine ah rfl rfl rfl rfl (fq rfl rfl rfl (by omega)) ?_
    refine ah rfl rfl rfl rfl (ce rfl rfl rfl) ?_
    try dsimp only [St.put]
    refine ax rfl rfl rfl rfl (bv rfl rfl) ?_
    refine cg ?_
    refine du [21] (by kernel_rfl) (by simp) ?_
    refine dt ?_ ?_
    ·try dsimp only [St.put]
     refine iq rfl rfl rfl (dp rfl rfl rfl (by decide) (by decide) zR (by decide) ?_)
     refine du [22] (by kernel_rfl) (by simp) ?_
     refine dt ?_ ?_
     ·try dsimp only [St.put]
      refine iq rfl rfl rfl (ay rfl rfl rfl (my _ _ [_]) ?_)
      refine ef [(23, none), (24, none)] (fun i => [23, 24].contains i) 0 (rl [25]) (by kernel_rfl) ?_
      refine ah rfl rfl rfl rfl (dl rfl rfl) ?_
      refine ah rfl rfl rfl rfl (cd rfl rfl (by constructor)) ?_
      refine cg ?_
      dsimp only [St.put]
      refine il (by kernel_rfl) ?_
      refine ⟨_, ?_, ⟨⟨rfl, rfl⟩, zF, zB, zN, zX⟩⟩
      rw [uw]
      (simp [h8, hnl, ga]; done)
     exact dr
    exact dr
   exact dr
  exact dr
 rintro b hst
 dsimp only at hst ⊢
 refine am rfl (fun hc => ?_) (fun hc => ?_)
 ·have hw : gt t (q.ch, q.ln) = none := by rw [hc] at hst; simpa using hst.symm
  refine yS fun _ K4 => ?_
  refine yR ?_
  refine yA rfl rfl ?_
  refine yN ?_
  dsimp only [St.put]
  refine K4 _ ?_
  refine ar ?_
  refine ba rfl (by constructor) zN zS ?_
  exact vb (by unfold fh; rw [hw])
 have hw0 : (gt t (q.ch, q.ln)).isSome = true := by rw [hc] at hst; simpa using hst.symm
 obtain ⟨l, hw⟩ := Option.isSome_iff_exists.1 hw0
 obtain ⟨k, n, c, hkn, hk, hn⟩ := si hw
 have hch : q.ch = ((k : Nat) : Int) := congrArg Prod.fst hkn
 have hln : q.ln = ((n : Nat) : Int) := congrArg Prod.snd hkn
 have hwl := uu ht hw
 refine av ?_
 refine K2 _ ?_
 refine yS fun _ K5 => ?_
 refine fk [(0, none), (1, none), (2, none), (3, none), (4, none), (5, none), (6, none), (7, none), (8, none), (9, none), (10, none), (11, none), (12, none), (13, none), (14, none), (15, none), (16, none), (17, none)] (fun i => [16].contains i) (fun i => [15, 16].contains i) (fun i => [0, 2, 4, 5, 7, 9, 11, 12, 13, 17].contains i) [] (by kernel_rfl) (by kernel_rfl) ?_
 refine ah rfl rfl rfl rfl (ce rfl rfl rfl) ?_
 try dsimp only [St.put]
 refine ax rfl rfl rfl rfl (bv rfl rfl) ?_
 refine ah rfl rfl rfl rfl (ce rfl rfl rfl) ?_
 try dsimp only [St.put]
 refine ax rfl rfl rfl rfl (bv rfl rfl) ?_
 try dsimp only [St.put]
 refine ah rfl rfl rfl rfl (bj rfl rfl rfl (by omega) (bi (by assumption)) (Enc.len _)) ?_
 refine ah rfl rfl rfl rfl (ce rfl rfl rfl) ?_
 try dsimp only [St.put]
 refine ax rfl rfl rfl rfl (bv rfl rfl) ?_
 refine ah rfl rfl rfl rfl (ce rfl rfl rfl) ?_
 try dsimp only [St.put]
 refine ax rfl rfl rfl rfl (bv rfl rfl) ?_
 try dsimp only [St.put]
 refine ah rfl rfl rfl rfl (bj rfl rfl rfl (by omega) (bi (by assumption)) (Enc.len _)) ?_
 try dsimp only [St.put]
 refine ax rfl rfl rfl rfl (bv rfl rfl) ?_
 refine ah rfl rfl rfl rfl (bd rfl rfl (List.length_map _)) ?_
 refine ah rfl rfl rfl rfl (fq rfl rfl rfl (by omega)) ?_
 refine ah rfl rfl rfl rfl (ce rfl rfl rfl) ?_
 try dsimp only [St.put]
 refine ax rfl rfl rfl rfl (bv rfl rfl) ?_
 refine gw ?_
 try dsimp only [St.put]
 refine i1 rfl rfl rfl (dp rfl rfl rfl (by decide) (by decide) zR (by decide) ⟨zD, ?_⟩)
 try dsimp only [St.put]
 refine gr rfl rfl rfl rfl (ay rfl rfl rfl (my _ _ [_]) ?_)
 refine dd rfl rfl rfl rfl (et rfl (by constructor)) ?_
 refine gl ?_
 dsimp only [St.put]
 refine K5 _ ?_
 refine ar ?_
 refine ba rfl (by constructor) zN zS ?_
 exact vb (by unfold fh; rw [hw, ga])
theorem ukf (t : ai) (ht : dg t = true) : Pure Tryz.prog 82 [g5 t] (.tup [lst (l5 t t.length), .v (.int .i64 (l9 t : Int))]) := by
 refine co Tryz.func82 rfl (fun m => .tup (bz (br _ _) (bz .v c5))) fun G nx => ?_
 simp only [Tryz.ntmps82, List.length_cons, List.length_nil, Nat.reduceAdd, Nat.reduceSub]
 refine bq fun hlt => ?_
 dsimp only at hlt
 obtain ⟨hl1, hl2, hl3⟩ := km ht
 refine yS fun _ K1 => ?_
 refine yR ?_
 try dsimp only [St.put]
 refine yB rfl rfl rfl ?_
 refine yA rfl rfl ?_
 refine yA rfl rfl ?_
 refine yN ?_
 dsimp only [St.put]
 refine K1 _ ?_
 refine yS fun _ K2 => ?_
 refine yR ?_
 refine yA rfl rfl ?_
 refine yN ?_
 dsimp only [St.put]
 refine K2 _ ?_
 refine nh 4 3 1 rfl (by decide) ?_
 dsimp only [List.set_cons_zero, List.set_cons_succ]
 refine yS fun _ K3 => ?_
 refine yR ?_
 refine yA rfl rfl ?_
 refine yN ?_
 dsimp only [St.put]
 refine K3 _ ?_
 refine yS fun _ K4 => ?_
 refine yS fun _ K5 => ?_
 refine yR ?_
 refine yF rfl rfl rfl rfl ?_
 refine yL rfl rfl rfl ?_
 refine aa rfl (bd rfl rfl (List.length_map _)) ?_
 refine yM rfl rfl ?_
 refine yN ?_
 dsimp only [St.put]
 refine K5 _ ?_
 refine az ?_
 refine cb 12 ?_
 refine zQ ?_
 refine ct (ak G nx (.tip 0 3 1)) zX ?_
 dsimp only
 refine cr (X := Nat) (fun k => k ≤ t.length) (fun k => t.length - k) (fun k => [(4, .list ((l5 t k).map cells) (.tip nx)), (5, .v (.int .i64 (fm t k : Int))), (7, .any), (11, .v (.int .i64 (k : Int)))]) (fun k G' => ak G nx (.tip (l5 t k).length 3 1)) 0 rfl ?_ ?_ ?_ ?_ ?_ ?_
 ·exact Nat.zero_le _
 ·exact zF
 ·exact zX
 ·rintro k hI
  exact zL
 ·rintro k hI
  exact zH
 rintro k hI
 dsimp only at hI ⊢
 refine yS fun _ K6 => ?_
 refine yR ?_
 refine aa rfl (ca rfl rfl rfl) ?_
 refine yN ?_
 dsimp only [St.put]
 refine K6 _ ?_
 refine yS fun _ K7 => ?_
 refine am rfl (fun hc => ?_) (fun hc => ?_)
 ·replace hc := of_decide_eq_true hc
  obtain ⟨c, hcx⟩ : ∃ c, t[k]? = some c := cw (by omega)
  have hll := (hl3 c (fu hcx)).2.1
  have hsl := u9 ht k (by omega)
  have hst : ((fm t (k + 1) : Nat) : Int) = (fm t k : Int) + (c.lines.length : Int) := by rw [sn hcx]; omega
  have hln := ua7 t k
  refine av ?_
  refine K7 _ ?_
  refine yS fun _ K8 => ?_
  refine az ?_
  refine yS fun _ K9 => ?_
  refine yR ?_
  refine aa rfl (bj rfl rfl rfl rfl (bi (by assumption)) (Enc.len _)) ?_
  refine yE rfl rfl rfl ?_
  try dsimp only [St.put]
  refine ae rfl (dx rfl ?_)
  try dsimp only [St.put]
  refine ae rfl (c6 rfl rfl rfl zG rfl rfl (by rfl) ?_)
  refine yN ?_
  dsimp only [St.put]
  refine K9 _ ?_
  refine gg (i := 7) rfl zG zC ?_
  dsimp only
  refine yS fun _ K10 => ?_
  refine yR ?_
  refine yM rfl rfl ?_
  refine yM rfl rfl ?_
  try dsimp only [St.put]
  refine ae rfl (dp rfl rfl rfl (by decide) (by decide) zR (by decide) ?_)
  try dsimp only [St.put]
  refine ae rfl (jr ([(fm t k : Int)]) rfl rfl zG zE rfl rfl zA ?_ zA)
  refine yA rfl rfl ?_
  refine yN ?_
  dsimp only [St.put]
  refine K10 _ ?_
  refine yR ?_
  refine yM rfl rfl ?_
  refine yF rfl rfl rfl rfl ?_
  refine yL rfl rfl rfl ?_
  refine aa rfl (bd rfl rfl (List.length_map _)) ?_
  refine aa rfl (bl rfl rfl rfl (by omega)) ?_
  refine yA rfl rfl ?_
  refine yN ?_
  dsimp only [St.put]
  refine K8 _ ?_
  refine yR ?_
  refine aa rfl (bl rfl rfl rfl (by omega)) ?_
  refine yM rfl rfl ?_
  refine yN ?_
  dsimp only [St.put]
  rw [← hst]
  simp only [← uib]
  exact ⟨k + 1, by omega, by omega, ⟨⟨rfl, rfl⟩, zF, zB, zN, zX⟩⟩
 replace hc := of_decide_eq_false hc
 obtain rfl : k = t.length := by omega
 refine cn ?_
 refine K4 _ ?_
 refine yS fun _ K11 => ?_
 refine yR ?_
 refine yM rfl rfl ?_
 refine yM rfl rfl ?_
 refine yA rfl rfl ?_
 refine yA rfl rfl ?_
 refine yN ?_
 dsimp only [St.put]
 refine K11 _ ?_
 refine ar ?_
 refine gz rfl (d7 (by constructor)) (d7 (by constructor)) zN zS ?_ ?_
 ·exact zW
 exact Wk.of_eq (vi rfl)
end Go.Proofs.YtbbdginipiljdaaGreatDoor
namespace Go.AB
open Go Go.RowKit Go.ChangeShapes Go.WideShapes
open Go.AB.Enc (cells)
open Go.PB (aw ai PlaceD bc bg bf)
/-- What is read along a type is a datum. -/
class OpensE (P : Program) (t : TypeId) (α : Type) [Enc α] : Prop where
 n : P.cellsOf t = Enc.n α
 op : ∀ {H : Type} {enc : TypeId × Value → H} {w : World} {base : Nat} {spare : Nat → Bool} {held : Bool} {fuel : Nat} {cs : List Value} {x : DataW H × List MemPlace}, DataW.trod enc P w base spare held fuel t cs = some x → ∃ a : α, Rs (ij w) w (cells a) cs
def wo (P : Program) (t : TypeId) (k : IntKind) : Bool := match P.underlying t with | some (.int k') => k' == k && P.cellsOf t == 1 | _ => false
def xz (P : Program) (t : TypeId) : Bool := match P.underlying t with | some .string => P.cellsOf t == 1 | _ => false
def sq (P : Program) (t e : TypeId) : Bool := match P.underlying t with | some (.slice e') => e' == e && P.cellsOf t == 1 | _ => false
def jg (P : Program) (t : TypeId) (l : List (Nat × TypeId × Nat)) (n : Nat) : Bool := match P.underlying t with
 | some (.struct fs) => (fs.toList.map fun f => (f.offset, f.type, P.cellsOf f.type)) == l && P.cellsOf t == n
 | _ => false
theorem wfI64 {n : Int} (h : (Lit.int .i64 n).wf = true) : okV (.int .i64 n) = true := by
 simp [Lit.wf, IntKind.min, IntKind.max, IntKind.signed, IntKind.bits] at h
 exact jo ⟨by omega, by omega⟩
section
variable {P : Program} {t e : TypeId}
theorem wl {k : IntKind} (h : wo P t k = true) : P.underlying t = some (.int k) ∧ P.cellsOf t = 1 := by
 unfold wo at h
 split at h
 ·rename_i k' he
  simp only [Bool.and_eq_true, beq_iff_eq] at h
  rw [he, h.1]; exact ⟨rfl, h.2⟩
 ·cases h
theorem ua5 (h : xz P t = true) : P.underlying t = some .string ∧ P.cellsOf t = 1 := by
 unfold xz at h
 split at h
 ·rename_i he; exact ⟨he, by simpa using h⟩
 ·cases h
theorem x7 (h : sq P t e = true) : P.underlying t = some (.slice e) ∧ P.cellsOf t = 1 := by
 unfold sq at h
 split at h
 ·rename_i k' he
  simp only [Bool.and_eq_true, beq_iff_eq] at h
  rw [he, h.1]; exact ⟨rfl, h.2⟩
 ·cases h
theorem Rs.single {E : Env} {w : World} {c : C} {v : Value} (h : R E w c v) : Rs E w [c] [v] := Rs.cons h Rs.nil
theorem Rs.single_inv {E : Env} {w : World} {c : C} {v : Value} (h : Rs E w [c] [v]) : R E w c v := h.2 0 c v rfl rfl
theorem OpensE.int (h : wo P t .i64 = true) : OpensE P t Int where
 n := (wl h).2
 op hx := by
  obtain ⟨n, rfl, _, h2⟩ := DataW.trod_int (wl h).1 hx
  exact ⟨n, Rs.single (.v (wfI64 h2))⟩
theorem OpensE.str (h : xz P t = true) : OpensE P t ByteArray where
 n := (ua5 h).2
 op hx := by
  obtain ⟨s, rfl, _, h2⟩ := DataW.trod_string (ua5 h).1 hx
  exact ⟨s, Rs.single (.v (okV_str.2 (by simpa [maxLen] using h2)))⟩
theorem uic {w : World} {a : Addr} {v : Value} (h : w.cell? a = some v) : a.spot = none := by
 unfold World.cell? at h
 split at h
 ·split at h
  ·cases h
  ·rename_i hs
   cases hsp : a.spot with
   | none => rfl
   | some s => simp [hsp] at hs
 ·cases h
theorem udk {α : Type} {p : Nat → α → Prop} : ∀ (n : Nat), (∀ i, i < n → ∃ x, p i x) → ∃ xs : List α, xs.length = n ∧ ∀ i x, xs[i]? = some x → p i x
 | 0, _ => ⟨[], rfl, fun i x h => by simp at h⟩
 | n + 1, h => by
  obtain ⟨xs, h1, h2⟩ := udk n fun i hi => h i (by omega)
  obtain ⟨y, hy⟩ := h n (by omega)
  refine ⟨xs ++ [y], by simp [h1], fun i x hx => ?_⟩
  by_cases hi : i < xs.length
  ·rw [List.getElem?_append_left hi] at hx; exact h2 i x hx
  ·rw [List.getElem?_append_right (by omega)] at hx
   have hz : i - xs.length = 0 := by
    have := (List.getElem?_eq_some_iff.1 hx).1
    simp at this; omega
   rw [hz] at hx
   simp at hx
   subst hx
   rw [show i = n by omega]; exact hy
theorem ubs {α : Type} [Enc α] {E : Env} {w : World} {b : Nat} : ∀ (xs : List α) (off : Nat), (∀ i x, xs[i]? = some x → ∃ es, Rs E w (cells x) es ∧ ∀ j e, es[j]? = some e → w.cell? ⟨b, off + i * Enc.n α + j, none⟩ = some e) →
  ∃ us, Rs E w (xs.map cells).flatten us ∧ ∀ j u, us[j]? = some u → w.cell? ⟨b, off + j, none⟩ = some u
 | [], off, _ => ⟨[], Rs.nil, by simp⟩
 | x :: xs, off, h => by
  obtain ⟨es, h1, h2⟩ := h 0 x rfl
  obtain ⟨us, h3, h4⟩ := ubs xs (off + Enc.n α) fun i y hy => by
   obtain ⟨fs, k1, k2⟩ := h (i + 1) y (by simpa using hy)
   exact ⟨fs, k1, fun j e he => by rw [← k2 j e he]; congr 2; rw [Nat.add_mul]; omega⟩
  have hl : es.length = Enc.n α := by rw [h1.1]; exact Enc.len x
  refine ⟨es ++ us, by rw [List.map_cons, List.flatten_cons]; exact h1.append h3, fun j u hu => ?_⟩
  by_cases hj : j < es.length
  ·rw [List.getElem?_append_left hj] at hu
   rw [← h2 j u hu]; congr 2; omega
  ·rw [List.getElem?_append_right (by omega)] at hu
   rw [← h4 _ u hu]; congr 2; omega
theorem OpensE.slice {α : Type} [Enc α] [o : OpensE P e α] (h : sq P t e = true) (hpos : 1 ≤ Enc.n α) : OpensE P t (List α) where
 n := (x7 h).2
 op {H enc w base spare held fuel cs x} hx := by
  rcases Deep.open_slice (x7 h).1 hx with ⟨rfl, _⟩ | ⟨a, len, cap, m, n, D, Pl, rfl, hb, hl, hm, hmm, _, hel⟩
  ·refine ⟨[], Rs.single ?_⟩
   exact R.mk_list (rows := []) (sz := 1) (us := []) (Nat.le_refl _) (Nat.zero_le _) (Nat.le_refl _) (by simp) (by simp) Rs.nil (.inl rfl) (by simp) (by simp) (by simp)
  ·have hlm : len ≤ m := by rw [hmm]; split <;> omega
   have hs : 0 < len → a.spot = none := fun h0 => by
    obtain ⟨cs', hc, ht⟩ := hel 0 (by omega)
    obtain ⟨_, hlen, hcell⟩ := World.cells?_some hc
    rw [o.n] at hlen hcell
    have := hcell 0 (by omega)
    rw [List.getElem?_eq_getElem (by omega)] at this
    have := uic this
    simpa [Addr.add] using this
   obtain ⟨xs, h1, h2⟩ := udk (p := fun i (y : α) => ∃ es, Rs (ij w) w (cells y) es ∧ ∀ j e, es[j]? = some e → w.cell? ⟨a.block, a.off + i * Enc.n α + j, none⟩ = some e) len fun i hi => by
    obtain ⟨cs', hc, ht⟩ := hel i (by omega)
    obtain ⟨y, hy⟩ := o.op ht
    obtain ⟨_, hlen, hcell⟩ := World.cells?_some hc
    rw [o.n] at hlen hcell hc
    have hs' := hs (by omega)
    refine ⟨y, cs', hy, fun j u hj => ?_⟩
    have hj' : j < Enc.n α := by rw [← hlen]; exact (List.getElem?_eq_some_iff.1 hj).1
    have := hcell j hj'
    rw [hj] at this
    rw [← this]
    obtain ⟨ab, ao, asp⟩ := a
    dsimp only at hs'
    subst hs'
    rw [qk, qk]
   subst h1
   refine ⟨xs, Rs.single ?_⟩
   obtain ⟨us, k1, k2⟩ := ubs (E := ij w) (w := w) (b := a.block) xs a.off h2
   have := R.mk_list (E := ij w) (w := w) (rows := xs.map cells) (a := some a) (cap := cap) (sz := Enc.n α) (us := us) (tok := .none) (by simpa using hl) hm hpos (lp xs) (fun r hr c hc => by
    obtain ⟨x, _, rfl⟩ := List.mem_map.1 hr
    exact Enc.one x c hc) k1 (by
    by_cases hxs : xs = []
    ·subst hxs; exact .inl rfl
    ·right
     have hs' := hs (List.length_pos_iff.2 hxs)
     obtain ⟨ab, ao, asp⟩ := a
     dsimp only at hs'
     subst hs'
     refine ⟨ab, ao, rfl, ?_, k2⟩
     have h0 : 0 < us.length := by
      rw [k1.1, nd (lp xs), List.length_map]
      exact Nat.mul_pos (List.length_pos_iff.2 hxs) hpos
     have := uab (k2 (us.length - 1) _ (List.getElem?_eq_getElem (by omega)))
     dsimp only at this
     show ao + us.length ≤ om w ab
     omega) (by simp) (by simp) (by simp)
   rw [List.length_map] at this
   exact this
theorem ua6 {l : List (Nat × TypeId × Nat)} {n : Nat} (h : jg P t l n = true) {H : Type} {enc : TypeId × Value → H} {w : World} {base : Nat} {spare : Nat → Bool} {held : Bool} {fuel : Nat} {cs : List Value} {x : DataW H × List MemPlace}
  (hx : DataW.trod enc P w base spare held fuel t cs = some x) : cs.length = n ∧ ∀ p ∈ l, ∃ m y, DataW.trod enc P w base spare held m p.2.1 ((cs.drop p.1).take p.2.2) = some y := by
 unfold jg at h
 split at h
 ·rename_i fs he
  simp only [Bool.and_eq_true, beq_iff_eq] at h
  obtain ⟨xs, m, _, _, hl, hlen, hf⟩ := DataW.trod_struct he hx
  refine ⟨by rw [hl, h.2], fun p hp => ?_⟩
  rw [← h.1] at hp
  obtain ⟨f, hfm, rfl⟩ := List.mem_map.1 hp
  obtain ⟨i, hi⟩ := List.getElem?_of_mem hfm
  have hi' : fs[i]? = some f := by simpa using hi
  have hlt : i < xs.length := by rw [hlen]; exact (Array.getElem?_eq_some_iff.1 hi').1
  exact ⟨m, xs[i], by rw [← List.getElem?_eq_getElem hlt]; exact hf i f hi'⟩
 ·cases h
theorem u7 {l : List (Nat × TypeId × Nat)} {n : Nat} (h : jg P t l n = true) : P.cellsOf t = n ∧ ∃ fs, P.underlying t = some (.struct fs) := by
 unfold jg at h
 split at h
 ·rename_i fs he
  simp only [Bool.and_eq_true, beq_iff_eq] at h
  exact ⟨h.2, fs, he⟩
 ·cases h
/-- A struct of one field. -/
theorem OpensE.one {α : Type} [Enc α] [o : OpensE P e α] (h : jg P t [(0, e, Enc.n α)] (Enc.n α) = true) : OpensE P t α where
 n := (u7 h).1
 op {H enc w base spare held fuel cs x} hx := by
  obtain ⟨hl, hp⟩ := ua6 h hx
  obtain ⟨m, y, hy⟩ := hp _ (List.mem_cons_self ..)
  obtain ⟨a, ha⟩ := o.op hy
  dsimp only at ha
  rw [List.drop_zero, List.take_of_length_le (by omega)] at ha
  exact ⟨a, ha⟩
/-- A struct, field by field. -/
theorem OpensE.struct {α : Type} [Enc α] {l : List (Nat × TypeId × Nat)} (h : jg P t l (Enc.n α) = true)
  (b : ∀ (w : World) (cs : List Value), cs.length = Enc.n α → (∀ p ∈ l, ∀ (β : Type) (_ : Enc β), OpensE P p.2.1 β → ∃ a : β, Rs (ij w) w (cells a) ((cs.drop p.1).take p.2.2)) → ∃ a : α, Rs (ij w) w (cells a) cs) : OpensE P t α where
 n := (u7 h).1
 op {H enc w base spare held fuel cs x} hx := by
  obtain ⟨hl, hp⟩ := ua6 h hx
  exact b w cs hl fun p hpl β _ o => let ⟨_, _, hy⟩ := hp p hpl; o.op hy
theorem OpensE.chap {tI tL : TypeId} [oI : OpensE P tI Int] [oL : OpensE P tL (List (List ByteArray))] (h : jg P t [(0, tI, 1), (1, tL, 1)] 2 = true) : OpensE P t aw :=
 .struct (α := aw) h fun w cs hl hp => by
  obtain ⟨a, ha⟩ := hp (0, tI, 1) (by simp) Int inferInstance oI
  obtain ⟨b, hb⟩ := hp (1, tL, 1) (by simp) (List (List ByteArray)) inferInstance oL
  match cs, hl with
  | [u, v], _ => exact ⟨⟨a, b⟩, Rs.cons (Rs.single_inv ha) hb⟩
theorem OpensE.place {tI : TypeId} [oI : OpensE P tI Int] (h : jg P t [(0, tI, 1), (1, tI, 1), (2, tI, 1)] 3 = true) : OpensE P t PlaceD :=
 .struct (α := PlaceD) h fun w cs hl hp => by
  obtain ⟨a, ha⟩ := hp (0, tI, 1) (by simp) Int inferInstance oI
  obtain ⟨b, hb⟩ := hp (1, tI, 1) (by simp) Int inferInstance oI
  obtain ⟨c, hc⟩ := hp (2, tI, 1) (by simp) Int inferInstance oI
  match cs, hl with
  | [u, v, x], _ => exact ⟨⟨a, b, c⟩, Rs.cons (Rs.single_inv ha) (Rs.cons (Rs.single_inv hb) hc)⟩
/-- An argument that is a struct; a number. -/
theorem OpensE.arg {α : Type} [Enc α] [o : OpensE P t α] {l : List (Nat × TypeId × Nat)} {n : Nat} (h : jg P t l n = true) {H : Type} {enc : TypeId × Value → H} {w : World} {base : Nat} {spare : Nat → Bool} {held : Bool} {r : Reach} {b0 : Nat} {v : Value} {d : DataW H} {ps : List MemPlace}
  (hv : Value.okWide P w r b0 t v) (hd : DataW.Trod enc P w base spare held t v d ps) : ∃ a : α, R (ij w) w (.agg (cells a)) v := by
 obtain ⟨fs, hs⟩ := (u7 h).2
 obtain ⟨cs, rfl, _⟩ := okWide_struct hs hv
 obtain ⟨fuel, hf⟩ := hd
 obtain ⟨a, ha⟩ := o.op hf
 exact ⟨a, by simpa [Value.cells] using Rs.agg ha (Enc.one a)⟩
end
theorem ul9 {P : Program} {f : FuncId} {cs : List C} {v fv : Value} {fc : C} (hp : PureF (.fact fv fc) P f cs (.v v)) {w : World} {args : List Value} (hF : R (ij w) w fc fv) (hr : Rs (ij w) w cs args) :
  Calls P f args.toArray w fun e w' => e = .returned v ∧ Below w.heap.size w w' := by
 obtain ⟨E1, v1, g1⟩ := uei (uf5 w) hF
 refine (hp _ _ (nv _ _ _) E1 w args (hr.ev v1) g1).mono ?_
 rintro e w' ⟨r, x, E', G', nx', rfl, hev, hx, _, rfl, _⟩
 exact ⟨by rw [hx.v_inv], by have := hev.below; rw [v1.B] at this; exact this⟩
end Go.AB
namespace Go.AB
open Go Go.RowKit Go.ChangeShapes Go.WideShapes
open Go.AB.Enc (cells)
variable {P : Program} {o : Oper} {st : St}
theorem n_rem {xt yt : TypeId} {x y : Operand} {m n : Int} (ho : o.op = .binOp .rem xt x y yt) (hx : evC st x = .v (.int .i64 m)) (hy : evC st y = .v (.int .i64 n)) (hm : 0 ≤ m ∧ m ≤ 9223372036854775807) (hn : 0 < n) : NStep P o st (.v (.int .i64 (m % n))) :=
 j7 ho hx hy (jo (by have h1 := Int.emod_nonneg m (b := n) (by omega); have h2 := Int.mul_ediv_add_emod m n; have h3 := Int.mul_nonneg (Int.le_of_lt hn) (Int.ediv_nonneg hm.1 (Int.le_of_lt hn)); omega)) fun w => by
  have h1 : ¬ n = 0 := by omega
  have h2 : m.tmod n = m % n := Int.tmod_eq_emod_of_nonneg hm.1
  simp [eqGuard, binOp, Op.intDiv, h1, h2]
theorem ule {s d : TypeId} {x : Operand} {k : IntKind} {n : Int} (ho : o.op = .convert s d x) (hx : evC st x = .v (.int k n)) (hs : (P.underlying s).isSome = true) (hd : P.underlying d = some (.int .i64)) (hn : -9223372036854775808 ≤ n ∧ n ≤ 9223372036854775807) : NStep P o st (.v (.int .i64 n)) := fun E w a h => by
 have e1 := (hx ▸ h.ev x).v_inv
 refine ⟨_, .v (jo hn), fun w' => ?_⟩
 have hk : P.intKind d = .i64 := by simp [Program.intKind, hd]
 have hw : IntKind.i64.wrap n = n := by rw [IntKind.wrap_i64]; omega
 have := run_convert_int (P := P) w' s d k n hs (by rw [hk]; exact hd)
 rw [hk, hw] at this
 simp [execOp, ho, e1, this]
end Go.AB
namespace Go.AB
open Go Go.RowKit
open Go.AB.Enc (cells)
variable {P : Program} {o : Oper} {st : St}
theorem tj {xt yt : TypeId} {x y : Operand} {m n : Int} (ho : o.op = .binOp .mul xt x y yt) (hx : evC st x = .v (.int .i64 m)) (hy : evC st y = .v (.int .i64 n)) (hb : -9223372036854775808 ≤ m * n ∧ m * n ≤ 9223372036854775807) : NStep P o st (.v (.int .i64 (m * n))) :=
 j7 ho hx hy (jo hb) fun w => by
  have : IntKind.i64.wrap (m * n) = m * n := by rw [IntKind.wrap_i64]; omega
  simp [eqGuard, binOp, Op.intArith, this]
theorem ti {xt yt : TypeId} {x y : Operand} {m n : Int} (ho : o.op = .binOp .quo xt x y yt) (hx : evC st x = .v (.int .i64 m)) (hy : evC st y = .v (.int .i64 n)) (hm : 0 ≤ m ∧ m ≤ 9223372036854775807) (hn : 0 < n) : NStep P o st (.v (.int .i64 (m / n))) := by
 have h3 : 0 ≤ m / n := Int.ediv_nonneg hm.1 (by omega)
 have h4 : m / n ≤ m := Int.ediv_le_self _ hm.1
 exact j7 ho hx hy (jo (by omega)) fun w => by
  have h1 : ¬ n = 0 := by omega
  have h2 : m.tdiv n = m / n := Int.tdiv_eq_ediv_of_nonneg hm.1
  have h5 : IntKind.i64.wrap (m / n) = m / n := by rw [IntKind.wrap_i64]; omega
  simp [eqGuard, binOp, Op.intDiv, h1, h2, h5]
theorem uhg {n : Nat} (h : n ≤ 62) : (2 : Int) ^ n ≤ 4611686018427387904 := by
 have : 2 ^ n ≤ 2 ^ 62 := Nat.pow_le_pow_right (by omega) h
 have h2 : ((2 ^ n : Nat) : Int) = (2 : Int) ^ n := by norm_cast
 rw [← h2]
 have h3 : (2 : Nat) ^ 62 = 4611686018427387904 := by decide
 omega
/-- one, shifted -/
theorem ucz {xt yt : TypeId} {x y : Operand} {n : Nat} (ho : o.op = .binOp .shl xt x y yt) (hx : evC st x = .v (.int .i64 1)) (hy : evC st y = .v (.int .i64 (n : Int))) (hn : n ≤ 62) : NStep P o st (.v (.int .i64 ((2 ^ n : Nat) : Int))) := by
 have h0 := uhg hn
 have h2 : ((2 ^ n : Nat) : Int) = (2 : Int) ^ n := by norm_cast
 have h1 : 0 ≤ ((2 ^ n : Nat) : Int) := Int.natCast_nonneg _
 exact j7 ho hx hy (jo (by omega)) fun w => by
  have e1 : ¬ ((n : Int) < 0) := by omega
  have e2 : min (n : Int).toNat IntKind.i64.bits = n := by rw [Int.toNat_natCast]; show min n 64 = n; omega
  have e3 : IntKind.i64.wrap (1 * 2 ^ n) = ((2 ^ n : Nat) : Int) := by rw [Int.one_mul, ← h2, IntKind.wrap_i64]; omega
  simp only [eqGuard, binOp, Op.shift, e1, if_false, e2, e3]
  rfl
/-- a number that is not below 0, shifted back -/
theorem yy {xt yt : TypeId} {x y : Operand} {k : IntKind} {m n : Nat} (ho : o.op = .binOp .shr xt x y yt) (hx : evC st x = .v (.int k (m : Int))) (hy : evC st y = .v (.int .i64 (n : Int))) (hn : n ≤ k.bits) (hm : (m : Int) ≤ hiK k) (hk : loK k ≤ 0) : NStep P o st (.v (.int k ((m / 2 ^ n : Nat) : Int))) := by
 have h4 : m / 2 ^ n ≤ m := Nat.div_le_self _ _
 exact n_int' ho hx hy (okV_int.2 (by obtain ⟨q, hq⟩ : ∃ q, m / 2 ^ n = q := ⟨_, rfl⟩; rw [hq] at h4 ⊢; omega)) fun w => by
  have e1 : ¬ ((n : Int) < 0) := by omega
  have e2 : min (n : Int).toNat k.bits = n := by rw [Int.toNat_natCast]; omega
  have e3 : (m : Int).fdiv (2 ^ n) = ((m / 2 ^ n : Nat) : Int) := by
   have h2 : ((2 ^ n : Nat) : Int) = (2 : Int) ^ n := by norm_cast
   rw [← h2, Int.fdiv_eq_ediv_of_nonneg _ (Int.natCast_nonneg _)]
   norm_cast
  simp only [eqGuard, binOp, Op.shift, e1, if_false, e2, e3]
  rfl
where
 n_int' {op : BinOp} {xt yt : TypeId} {x y : Operand} {k k' : IntKind} {m n : Int} {r : Value} (ho : o.op = .binOp op xt x y yt) (hx : evC st x = .v (.int k m)) (hy : evC st y = .v (.int k' n))
  (h1 : okV r = true) (h : ∀ w, (do eqGuard op xt x y (.int k m) (.int k' n); binOp op xt (.int k m) (.int k' n)).run P w = .ok r w) : NStep P o st (.v r) := fun E w a hs => by
  have e1 := (hx ▸ hs.ev x).v_inv
  have e2 := (hy ▸ hs.ev y).v_inv
  refine ⟨r, .v h1, fun w' => ?_⟩
  have := h w'
  simp only [execOp, ho, e1, e2, Sem.run_bind] at this ⊢
  rw [this]
  rfl
/-- the last bit -/
theorem y4 {xt yt : TypeId} {x y : Operand} {k : IntKind} {m : Nat} (ho : o.op = .binOp .and xt x y yt) (hx : evC st x = .v (.int k (m : Int))) (hy : evC st y = .v (.int k 1)) (hm : m < 2 ^ k.bits) (hb : 2 ≤ k.bits) : NStep P o st (.v (.int k ((m % 2 : Nat) : Int))) := by
 have h2 : m % 2 < 2 := Nat.mod_lt _ (by omega)
 exact j7 ho hx hy (okV_int.2 (by cases k <;> simp only [loK, hiK] <;> omega)) fun w => by
  have e1 : (BitVec.ofInt k.bits (m : Int) &&& BitVec.ofInt k.bits 1).toNat = m % 2 := by
   have q1 : (BitVec.ofInt k.bits (m : Int)).toNat = m := by
    rw [show BitVec.ofInt k.bits (m : Int) = BitVec.ofNat k.bits m from BitVec.ofInt_natCast .., BitVec.toNat_ofNat, Nat.mod_eq_of_lt hm]
   have q2 : (BitVec.ofInt k.bits 1).toNat = 1 := by
    rw [show BitVec.ofInt k.bits 1 = BitVec.ofNat k.bits 1 from BitVec.ofInt_natCast k.bits 1, BitVec.toNat_ofNat, Nat.mod_eq_of_lt]
    exact Nat.one_lt_two_pow (by omega)
   rw [BitVec.toNat_and, q1, q2, Nat.and_one_is_mod]
  have e2 : k.wrap ((m % 2 : Nat) : Int) = ((m % 2 : Nat) : Int) := by
   have : m % 2 = 0 ∨ m % 2 = 1 := by omega
   rcases this with h | h <;> rw [h] <;> cases k <;> decide
  simp only [eqGuard, binOp, Op.intBits, e1, e2]
  simp
end Go.AB
namespace Go.AB
open Go Go.RowKit
open Go.AB.Enc (cells)
open Go.PB (aw ai PlaceD bc bg bf bp aq af ci bn cx cz)
theorem uba {t : ai} (ht : dg t = true) (k : Nat) : fm t k ≤ 60 := by
 obtain ⟨_, h2, h3⟩ := km ht
 have key : ∀ j, j ≤ t.length → fm t j ≤ j * 10 := by
  intro j
  induction j with
  | zero => intro _; rw [ua9]; exact Nat.zero_le _
  | succ j ih =>
   intro hj
   have hc : t[j]? = some t[j] := List.getElem?_eq_getElem (by omega)
   rw [sn hc]
   have := (h3 _ (List.mem_of_getElem? hc)).2.1
   have := ih (by omega)
   omega
 by_cases q : k ≤ t.length
 ·have := key k q; omega
 have h1 := key t.length (Nat.le_refl _)
 have e : fm t k = fm t t.length := by
  unfold fm
  rw [List.take_of_length_le (show t.length ≤ k by omega), List.take_of_length_le (Nat.le_refl _)]
 omega
instance decLtW : ∀ a b : List Int, Decidable (ltW a b)
 | [], _ => isFalse (by simp [ltW])
 | _ :: _, [] => isFalse (by simp [ltW])
 | x :: a, y :: b => by
  have := decLtW a b
  unfold ltW
  exact inferInstance
end Go.AB
namespace Go.Proofs.YtbbdginipiljdaaGreatDoor
set_option maxRecDepth 10000
open Go.RowKit Go.AB
open Go.AB.Enc (cells)
open Go.PB (aw ai PlaceD bc bg bf bp aq af ci bn cx cz)
theorem o5 (n lo hi : Int) : Pure Tryz.prog 71 [.v (.int .i64 n), .v (.int .i64 lo), .v (.int .i64 hi)] (.v (.bool (inB n lo hi))) := by
 refine co Tryz.func71 rfl (fun m => .v) fun G nx => ?_
 simp only [Tryz.ntmps71, List.length_cons, List.length_nil, Nat.reduceAdd, Nat.reduceSub]
 refine bq fun hlt => ?_
 dsimp only at hlt
 refine yS fun _ K1 => ?_
 refine yR ?_
 refine yA rfl rfl ?_
 refine yN ?_
 dsimp only [St.put]
 refine K1 _ ?_
 refine yS fun _ K2 => ?_
 refine yR ?_
 refine yM rfl rfl ?_
 refine yM rfl rfl ?_
 refine aa rfl (m4 rfl rfl rfl) ?_
 refine ed (fun hs => ?_) (fun hs => ?_)
 ·try replace hs := of_decide_eq_true hs
  refine yM rfl rfl ?_
  refine yM rfl rfl ?_
  refine yM rfl rfl ?_
  refine aa rfl (tm rfl rfl rfl) ?_
  refine aa rfl (bu rfl rfl (by constructor)) ?_
  refine yA rfl rfl ?_
  refine yN ?_
  dsimp only [St.put]
  refine K2 _ ?_
  refine ar ?_
  refine ba rfl (by constructor) zN zS ?_
  exact vb (by simp [inB, hs]; try omega)
 try replace hs := of_decide_eq_false hs
 refine yM rfl rfl ?_
 refine yK rfl ?_
 refine yK rfl ?_
 refine yK rfl ?_
 refine aa rfl (cd rfl rfl (by constructor)) ?_
 refine yA rfl rfl ?_
 refine yN ?_
 dsimp only [St.put]
 refine K2 _ ?_
 refine ar ?_
 refine ba rfl (by constructor) zN zS ?_
 exact vb (by simp [inB, hs]; try omega)
theorem ujq (t : ai) (ht : dg t = true) : Pure Tryz.prog 107 [g5 t] (.v (.int .i64 (l9 t : Int))) := by
 refine co Tryz.func107 rfl (fun m => .v) fun G nx => ?_
 simp only [Tryz.ntmps107, List.length_cons, List.length_nil, Nat.reduceAdd, Nat.reduceSub]
 refine bq fun hlt => ?_
 dsimp only at hlt
 obtain ⟨hl1, hl2, hl3⟩ := km ht
 refine yS fun _ K1 => ?_
 refine yR ?_
 try dsimp only [St.put]
 refine yB rfl rfl rfl ?_
 refine yA rfl rfl ?_
 refine yN ?_
 dsimp only [St.put]
 refine K1 _ ?_
 refine yS fun _ K2 => ?_
 refine yR ?_
 refine yA rfl rfl ?_
 refine yN ?_
 dsimp only [St.put]
 refine K2 _ ?_
 refine yS fun _ K3 => ?_
 refine yS fun _ K4 => ?_
 refine yR ?_
 refine yA rfl rfl ?_
 refine yN ?_
 dsimp only [St.put]
 refine K4 _ ?_
 refine az ?_
 refine cb 5 ?_
 refine zQ ?_
 refine ct (G) zX ?_
 dsimp only
 refine cr (X := Nat) (fun k => k ≤ t.length) (fun k => t.length - k) (fun k => [(3, .v (.int .i64 ((fm t k : Nat) : Int))), (4, .v (.int .i64 (k : Int)))]) (fun k G' => G') 0 rfl ?_ ?_ (fun _ _ h => h) ?_ ?_ ?_
 ·exact Nat.zero_le _
 ·exact zF
 ·rintro k hI
  exact zL
 ·exact fun _ _ _ _ h => .inl h
 rintro k hI
 dsimp only at hI ⊢
 refine yS fun _ K5 => ?_
 refine yS fun _ K6 => ?_
 refine yR ?_
 refine yM rfl rfl ?_
 refine yF rfl rfl rfl rfl ?_
 refine yL rfl rfl rfl ?_
 refine aa rfl (bd rfl rfl (List.length_map _)) ?_
 refine aa rfl (ca rfl rfl rfl) ?_
 refine yN ?_
 dsimp only [St.put]
 refine K6 _ ?_
 refine am rfl (fun hc => ?_) (fun hc => ?_)
 ·replace hc := of_decide_eq_true hc
  obtain ⟨c, hk⟩ : ∃ x, t[k]? = some x := cw (by omega)
  have hcl := hl3 c (fu hk)
  have hst := uba ht k
  refine av ?_
  refine K5 _ ?_
  refine yS fun _ K7 => ?_
  refine az ?_
  refine yR ?_
  refine yM rfl rfl ?_
  refine yF rfl rfl rfl rfl ?_
  refine yL rfl rfl rfl ?_
  refine yM rfl rfl ?_
  refine aa rfl (bj rfl rfl rfl rfl (bi (by assumption)) (Enc.len _)) ?_
  refine yF rfl rfl rfl rfl ?_
  refine yL rfl rfl rfl ?_
  refine aa rfl (bd rfl rfl (List.length_map _)) ?_
  refine aa rfl (bl rfl rfl rfl (by omega)) ?_
  refine yA rfl rfl ?_
  refine yN ?_
  dsimp only [St.put]
  refine K7 _ ?_
  refine yR ?_
  refine yM rfl rfl ?_
  refine aa rfl (bl rfl rfl rfl (by omega)) ?_
  refine yA rfl rfl ?_
  refine yN ?_
  dsimp only [St.put]
  have e := sn hk
  rw [show ((fm t k : Nat) : Int) + (c.lines.length : Int) = ((fm t (k + 1) : Nat) : Int) by rw [e]; rfl]
  exact ⟨k + 1, by omega, by omega, ⟨⟨rfl, rfl⟩, zF, zB, zN, zX⟩⟩
 replace hc := of_decide_eq_false hc
 obtain rfl : k = t.length := by omega
 refine cn ?_
 refine K3 _ ?_
 refine yS fun _ K8 => ?_
 refine yR ?_
 refine yM rfl rfl ?_
 refine yA rfl rfl ?_
 refine yN ?_
 dsimp only [St.put]
 refine K8 _ ?_
 refine ar ?_
 refine ba rfl (by constructor) zN zS ?_
 rfl
theorem yi (t : ai) (q : PlaceD) (ht : dg t = true) (hq : fh t q = true) : Pure Tryz.prog 25 [g5 t, val q] (.v (.int .i64 (p8 t q))) := by
 refine co Tryz.func25 rfl (fun m => .v) fun G nx => ?_
 simp only [Tryz.ntmps25, List.length_cons, List.length_nil, Nat.reduceAdd, Nat.reduceSub]
 refine bq fun hlt => ?_
 dsimp only at hlt
 obtain ⟨hl1, hl2, hl3⟩ := km ht
 obtain ⟨kc, kn, kw, c0, l0, hqe, hkc, hkn, _⟩ := ub8 hq
 have hkcl := (List.getElem?_eq_some_iff.1 hkc).1
 have hknl := (List.getElem?_eq_some_iff.1 hkn).1
 have hc0 := (hl3 c0 (fu hkc)).2.1
 subst hqe
 refine yS fun _ K1 => ?_
 refine yR ?_
 try dsimp only [St.put]
 refine yB rfl rfl rfl ?_
 try dsimp only [St.put]
 refine yB rfl rfl rfl ?_
 refine yA rfl rfl ?_
 refine yN ?_
 dsimp only [St.put]
 refine K1 _ ?_
 refine yS fun _ K2 => ?_
 refine yR ?_
 refine yF rfl rfl rfl rfl ?_
 refine yL rfl rfl rfl ?_
 refine yA rfl rfl ?_
 refine yN ?_
 dsimp only [St.put]
 refine K2 _ ?_
 refine yS fun _ K3 => ?_
 refine yS fun _ K4 => ?_
 refine yR ?_
 refine yA rfl rfl ?_
 refine yN ?_
 dsimp only [St.put]
 refine K4 _ ?_
 refine az ?_
 refine cb 7 ?_
 refine zQ ?_
 refine ct (G) zX ?_
 dsimp only
 refine cr (X := Nat) (fun k => k ≤ kc) (fun k => kc - k) (fun k => [(5, .v (.int .i64 ((kn : Int) + ((fm t k : Nat) : Int)))), (6, .v (.int .i64 (k : Int)))]) (fun k G' => G') 0 rfl ?_ ?_ (fun _ _ h => h) ?_ ?_ ?_
 ·exact Nat.zero_le _
 ·exact zF
 ·rintro k hI
  exact zL
 ·exact fun _ _ _ _ h => .inl h
 rintro k hI
 dsimp only at hI ⊢
 refine yS fun _ K5 => ?_
 refine yS fun _ K6 => ?_
 refine yR ?_
 refine yM rfl rfl ?_
 refine yF rfl rfl rfl rfl ?_
 refine yL rfl rfl rfl ?_
 refine aa rfl (ca rfl rfl rfl) ?_
 refine yN ?_
 dsimp only [St.put]
 refine K6 _ ?_
 refine am rfl (fun hc => ?_) (fun hc => ?_)
 ·replace hc := of_decide_eq_true hc
  obtain ⟨c, hk⟩ : ∃ x, t[k]? = some x := cw (by omega)
  have hcl := hl3 c (fu hk)
  have hst := uba ht k
  refine av ?_
  refine K5 _ ?_
  refine yS fun _ K7 => ?_
  refine az ?_
  refine yR ?_
  refine yM rfl rfl ?_
  refine yF rfl rfl rfl rfl ?_
  refine yL rfl rfl rfl ?_
  refine yM rfl rfl ?_
  refine aa rfl (bj rfl rfl rfl rfl (bi (by assumption)) (Enc.len _)) ?_
  refine yF rfl rfl rfl rfl ?_
  refine yL rfl rfl rfl ?_
  refine aa rfl (bd rfl rfl (List.length_map _)) ?_
  refine aa rfl (bl rfl rfl rfl (by omega)) ?_
  refine yA rfl rfl ?_
  refine yN ?_
  dsimp only [St.put]
  refine K7 _ ?_
  refine yR ?_
  refine yM rfl rfl ?_
  refine aa rfl (bl rfl rfl rfl (by omega)) ?_
  refine yA rfl rfl ?_
  refine yN ?_
  dsimp only [St.put]
  have e := sn hk
  rw [show (kn : Int) + ((fm t k : Nat) : Int) + (c.lines.length : Int) = (kn : Int) + ((fm t (k + 1) : Nat) : Int) by rw [e, Int.natCast_add]; omega]
  exact ⟨k + 1, by omega, by omega, ⟨⟨rfl, rfl⟩, zF, zB, zN, zX⟩⟩
 replace hc := of_decide_eq_false hc
 obtain rfl : k = kc := by omega
 refine cn ?_
 refine K3 _ ?_
 refine yS fun _ K8 => ?_
 refine yR ?_
 refine yM rfl rfl ?_
 refine yA rfl rfl ?_
 refine yN ?_
 dsimp only [St.put]
 refine K8 _ ?_
 refine ar ?_
 refine ba rfl (by constructor) zN zS ?_
 exact vi (by unfold p8; rw [Int.toNat_natCast])
theorem ub0 (l : List PlaceD) (q : PlaceD) (hl : l.length ≤ 1000) : Pure Tryz.prog 95 [lst l, val q] (.v (.bool (decide (q ∈ l)))) := by
 refine co Tryz.func95 rfl (fun m => .v) fun G nx => ?_
 simp only [Tryz.ntmps95, List.length_cons, List.length_nil, Nat.reduceAdd, Nat.reduceSub]
 refine bq fun hlt => ?_
 dsimp only at hlt
 refine yS fun _ K1 => ?_
 refine yR ?_
 try dsimp only [St.put]
 refine yB rfl rfl rfl ?_
 refine yA rfl rfl ?_
 refine yN ?_
 dsimp only [St.put]
 refine K1 _ ?_
 refine yS fun _ K2 => ?_
 refine yS fun _ K3 => ?_
 refine yR ?_
 refine yA rfl rfl ?_
 refine yN ?_
 dsimp only [St.put]
 refine K3 _ ?_
 refine az ?_
 refine cb 6 ?_
 refine zQ ?_
 refine ct (G) zX ?_
 dsimp only
 refine cr (X := Nat) (fun k => k ≤ l.length ∧ ∀ y ∈ l.take k, y ≠ q) (fun k => l.length - k) (fun k => [(5, .v (.int .i64 (k : Int)))]) (fun k G' => G') 0 rfl ?_ ?_ (fun _ _ h => h) ?_ ?_ ?_
 ·exact ⟨Nat.zero_le _, by simp⟩
 ·exact zF
 ·rintro k hI
  exact zL
 ·exact fun _ _ _ _ h => .inl h
 rintro k hI
 dsimp only at hI ⊢
 refine yS fun _ K4 => ?_
 refine yS fun _ K5 => ?_
 refine yR ?_
 refine yM rfl rfl ?_
 refine yM rfl rfl ?_
 refine aa rfl (bd rfl rfl (List.length_map _)) ?_
 refine aa rfl (ca rfl rfl rfl) ?_
 refine yN ?_
 dsimp only [St.put]
 refine K5 _ ?_
 refine am rfl (fun hc => ?_) (fun hc => ?_)
 ·replace hc := of_decide_eq_true hc
  obtain ⟨y, hy⟩ : ∃ y, l[k]? = some y := cw (by omega)
  refine av ?_
  refine K4 _ ?_
  refine yS fun _ K6 => ?_
  refine az ?_
  refine yS fun _ K7 => ?_
  refine fk [(0, none), (1, none), (2, none), (3, none), (4, none), (5, none)] (fun i => [].contains i) (fun i => [].contains i) (fun i => [0, 1, 2, 5].contains i) [] (by kernel_rfl) (by kernel_rfl) ?_
  refine xM rfl rfl rfl rfl rfl ?_
  refine xM rfl rfl rfl rfl rfl ?_
  try dsimp only [St.put]
  refine ah rfl rfl rfl rfl (bj rfl rfl rfl rfl (bi (by assumption)) (Enc.len _)) ?_
  try dsimp only [St.put]
  refine ax rfl rfl rfl rfl (d8 rfl rfl (Enc.len _)) ?_
  try dsimp only [St.put]
  refine ax rfl rfl rfl rfl (d8 rfl rfl (Enc.len _)) ?_
  refine ah rfl rfl rfl rfl (ky (x := y) (y := q) rfl rfl rfl) ?_
  refine cg ?_
  dsimp only [St.put]
  refine K7 _ ?_
  refine am rfl (fun hc => ?_) (fun hc => ?_)
  ·have he : y = q := of_decide_eq_true hc
   refine yS fun _ K8 => ?_
   refine yR ?_
   refine yA rfl rfl ?_
   refine yN ?_
   dsimp only [St.put]
   refine K8 _ ?_
   refine ar ?_
   refine ba rfl (by constructor) zN zS ?_
   exact vb (decide_eq_true (he ▸ fu hy)).symm
  have hne : y ≠ q := of_decide_eq_false hc
  refine av ?_
  refine K6 _ ?_
  refine yR ?_
  refine yM rfl rfl ?_
  refine aa rfl (bl rfl rfl rfl (by omega)) ?_
  refine yA rfl rfl ?_
  refine yN ?_
  dsimp only [St.put]
  exact ⟨k + 1, by omega, ⟨by omega, y7 (p := fun y => y ≠ q) hy hne hI.2⟩, ⟨⟨rfl, rfl⟩, zF, zB, zN, zX⟩⟩
 replace hc := of_decide_eq_false hc
 refine cn ?_
 refine K2 _ ?_
 refine yS fun _ K9 => ?_
 refine yR ?_
 refine yA rfl rfl ?_
 refine yN ?_
 dsimp only [St.put]
 refine K9 _ ?_
 refine ar ?_
 refine ba rfl (by constructor) zN zS ?_
 exact vb (by
  have := hI.2
  rw [f5 (show l.length ≤ k by omega)] at this
  exact (decide_eq_false fun h => this q h rfl).symm)
theorem ub3 (a b : List Int) (ha : a.length ≤ 1000) : Pure Tryz.prog 19 [lst a, lst b] (.v (.bool (decide (a = b)))) := by
 refine co Tryz.func19 rfl (fun m => .v) fun G nx => ?_
 simp only [Tryz.ntmps19, List.length_cons, List.length_nil, Nat.reduceAdd, Nat.reduceSub]
 refine bq fun hlt => ?_
 dsimp only at hlt
 refine kf 1 (fun hfb => ?_)
 have hb := (fit_lst.1 hfb).1
 refine yS fun _ K1 => ?_
 refine yR ?_
 refine yA rfl rfl ?_
 refine yN ?_
 dsimp only [St.put]
 refine K1 _ ?_
 refine yS fun _ K2 => ?_
 refine yS fun _ K3 => ?_
 refine yR ?_
 refine yM rfl rfl ?_
 refine aa rfl (bd rfl rfl (List.length_map _)) ?_
 refine yM rfl rfl ?_
 refine aa rfl (bd rfl rfl (List.length_map _)) ?_
 refine aa rfl (fb rfl rfl rfl) ?_
 refine yN ?_
 dsimp only [St.put]
 refine K3 _ ?_
 refine am rfl (fun hc => ?_) (fun hc => ?_)
 ·try replace hc := of_decide_eq_true hc
  refine yS fun _ K4 => ?_
  refine yR ?_
  refine yA rfl rfl ?_
  refine yN ?_
  dsimp only [St.put]
  refine K4 _ ?_
  refine ar ?_
  refine ba rfl (by constructor) zN zS ?_
  exact vb (by
   have : a ≠ b := fun e => by subst e; simp at hc
   simp [this])
 have hl : a.length = b.length := by
  have := g6 hc
  omega
 refine av ?_
 refine K2 _ ?_
 refine yS fun _ K5 => ?_
 refine yS fun _ K6 => ?_
 refine yR ?_
 refine yA rfl rfl ?_
 refine yN ?_
 dsimp only [St.put]
 refine K6 _ ?_
 refine az ?_
 refine cb 6 ?_
 refine zQ ?_
 refine ct (G) zX ?_
 dsimp only
 refine cr (X := Nat) (fun k => k ≤ a.length ∧ a.take k = b.take k) (fun k => a.length - k) (fun k => [(5, .v (.int .i64 (k : Int)))]) (fun k G' => G') 0 rfl ?_ ?_ (fun _ _ h => h) ?_ ?_ ?_
 ·exact ⟨Nat.zero_le _, by simp⟩
 ·exact zF
 ·rintro k hI
  exact zL
 ·exact fun _ _ _ _ h => .inl h
 rintro k hI
 dsimp only at hI ⊢
 refine yS fun _ K7 => ?_
 refine yS fun _ K8 => ?_
 refine yR ?_
 refine yM rfl rfl ?_
 refine yM rfl rfl ?_
 refine aa rfl (bd rfl rfl (List.length_map _)) ?_
 refine aa rfl (ca rfl rfl rfl) ?_
 refine yN ?_
 dsimp only [St.put]
 refine K8 _ ?_
 refine am rfl (fun hc => ?_) (fun hc => ?_)
 ·replace hc := of_decide_eq_true hc
  obtain ⟨x, hx⟩ : ∃ x, a[k]? = some x := cw (by omega)
  obtain ⟨y, hy⟩ : ∃ y, b[k]? = some y := cw (by omega)
  refine av ?_
  refine K7 _ ?_
  refine yS fun _ K9 => ?_
  refine az ?_
  refine yS fun _ K10 => ?_
  refine fk [(0, none), (1, none), (2, none), (3, none), (4, none), (5, none), (6, none), (7, none), (8, none)] (fun i => [].contains i) (fun i => [].contains i) (fun i => [0, 1, 2, 4, 5, 6, 8].contains i) [] (by kernel_rfl) (by kernel_rfl) ?_
  refine xM rfl rfl rfl rfl rfl ?_
  refine xM rfl rfl rfl rfl rfl ?_
  try dsimp only [St.put]
  refine ah rfl rfl rfl rfl (bj rfl rfl rfl rfl (bi (by assumption)) (Enc.len _)) ?_
  try dsimp only [St.put]
  refine ax rfl rfl rfl rfl (bv rfl rfl) ?_
  refine xM rfl rfl rfl rfl rfl ?_
  refine xM rfl rfl rfl rfl rfl ?_
  try dsimp only [St.put]
  refine ah rfl rfl rfl rfl (bj rfl rfl rfl rfl (bi (by assumption)) (Enc.len _)) ?_
  try dsimp only [St.put]
  refine ax rfl rfl rfl rfl (bv rfl rfl) ?_
  refine ah rfl rfl rfl rfl (fb rfl rfl rfl) ?_
  refine cg ?_
  dsimp only [St.put]
  refine K10 _ ?_
  refine am rfl (fun hc => ?_) (fun hc => ?_)
  ·have hxy := jj hc
   refine yS fun _ K11 => ?_
   refine yR ?_
   refine yA rfl rfl ?_
   refine yN ?_
   dsimp only [St.put]
   refine K11 _ ?_
   refine ar ?_
   refine ba rfl (by constructor) zN zS ?_
   exact vb (by simp [ucx hx hy hxy])
  have hxy := g6 hc
  refine av ?_
  refine K9 _ ?_
  refine yR ?_
  refine yM rfl rfl ?_
  refine aa rfl (bl rfl rfl rfl (by omega)) ?_
  refine yA rfl rfl ?_
  refine yN ?_
  dsimp only [St.put]
  exact ⟨k + 1, by omega, ⟨by omega, ua0 hI.2 hx (hxy ▸ hy)⟩, ⟨⟨rfl, rfl⟩, zF, zB, zN, zX⟩⟩
 replace hc := of_decide_eq_false hc
 refine cn ?_
 refine K5 _ ?_
 refine yS fun _ K12 => ?_
 refine yR ?_
 refine yA rfl rfl ?_
 refine yN ?_
 dsimp only [St.put]
 refine K12 _ ?_
 refine ar ?_
 refine ba rfl (by constructor) zN zS ?_
 exact vb (by
  have h1 := hI.2
  rw [f5 (by omega), f5 (by omega)] at h1
  simp [h1])
end Go.Proofs.YtbbdginipiljdaaGreatDoor
namespace Go.AB
open Go Go.RowKit
open Go.AB.Enc (cells)
open Go.PB (aw ai PlaceD bc bg bf bp aq af ci bn cx cz)
theorem uav {t : ai} {x : aq} {i : Nat} {q : PlaceD} (h : (dc t)[i]? = some q) : fw t x ((dc t).take (i + 1)) = fw t x ((dc t).take i) + bif fe t x q then 1 else 0 := by
 unfold fw
 rw [List.take_add_one, h, Option.toList_some, List.filter_append, List.length_append]
 cases hf : fe t x q <;> simp [hf]
def jb (x : aq) (b : Bool) (q : PlaceD) : Bool := bif b then decide (q ∈ x.found) && decide (q ∈ x.well) else decide (q ∈ x.found) || decide (q ∈ x.well)
/-- what is found, among the first places -/
def na (t : ai) (x : aq) (b : Bool) (i : Nat) : List PlaceD := ((dc t).take i).filter (jb x b)
theorem ud6 {t : ai} {x : aq} {b : Bool} {i : Nat} {q : PlaceD} (h : (dc t)[i]? = some q) : na t x b (i + 1) = na t x b i ++ bif jb x b q then [q] else [] := by
 unfold na
 rw [List.take_add_one, h, Option.toList_some, List.filter_append]
 cases hf : jb x b q <;> simp [hf]
theorem ums (t : ai) (x : aq) (b : Bool) : na t x b (dc t).length = bif b then dw t x else dh t x := by
 unfold na
 rw [List.take_length]
 cases b <;> rfl
theorem umr (t : ai) (x : aq) (b : Bool) (i : Nat) : (na t x b i).length ≤ (dc t).length := by
 unfold na
 have := List.length_filter_le (jb x b) ((dc t).take i)
 rw [List.length_take] at this
 omega
theorem bit_eq {s k : Nat} : (((s / 2 ^ k % 2 : Nat) : Int) = 1) ↔ s.testBit k = true := by
 rw [Nat.testBit_eq_decide_div_mod_eq, decide_eq_true_eq]
 omega
end Go.AB
namespace Go.Proofs.YtbbdginipiljdaaGreatDoor
set_option maxRecDepth 10000
open Go.RowKit Go.AB
open Go.AB.Enc (cells)
open Go.PB (aw ai PlaceD bc bg bf bp aq af ci bn cx cz)
theorem ujp (p : af) (j : Nat) (x : aq) (ht : dg p.text = true) (hx : p.pages[j]? = some x) : Pure Tryz.prog 73 [val p, .v (.int .i64 (j : Int))] (.v (.int .i64 (ei p.text x : Int))) := by
 refine co Tryz.func73 rfl (fun m => .v) fun G nx => ?_
 simp only [Tryz.ntmps73, List.length_cons, List.length_nil, Nat.reduceAdd, Nat.reduceSub]
 refine bq fun hlt => ?_
 dsimp only at hlt
 have hal := lh ht
 have hjl := (List.getElem?_eq_some_iff.1 hx).1
 refine yS fun _ K1 => ?_
 refine yR ?_
 try dsimp only [St.put]
 refine yB rfl rfl rfl ?_
 refine yA rfl rfl ?_
 refine yN ?_
 dsimp only [St.put]
 refine K1 _ ?_
 refine yS fun _ K2 => ?_
 refine yR ?_
 refine yA rfl rfl ?_
 refine yN ?_
 dsimp only [St.put]
 refine K2 _ ?_
 refine yS fun _ K3 => ?_
 refine yR ?_
 refine yF rfl rfl rfl rfl ?_
 try dsimp only [St.put]
 refine bw rfl (c := g5 p.text) (i4 (cs := cells p) rfl rfl (show 1 ≤ 4 by decide)) ?_
 try dsimp only [St.put]
 refine ae rfl (ay rfl rfl rfl (ubx p.text ht) ?_)
 refine yA rfl rfl ?_
 refine yN ?_
 dsimp only [St.put]
 refine K3 _ ?_
 refine yS fun _ K4 => ?_
 refine yS fun _ K5 => ?_
 refine yR ?_
 refine yA rfl rfl ?_
 refine yN ?_
 dsimp only [St.put]
 refine K5 _ ?_
 refine az ?_
 refine cb 8 ?_
 refine zQ ?_
 refine ct (G) zX ?_
 dsimp only
 refine cr (X := Nat) (fun i => i ≤ (dc p.text).length) (fun i => (dc p.text).length - i) (fun i => [(5, .v (.int .i64 ((fw p.text x ((dc p.text).take i) : Nat) : Int))), (7, .v (.int .i64 (i : Int)))]) (fun i G' => G') 0 rfl ?_ ?_ (fun _ _ h => h) ?_ ?_ ?_
 ·exact Nat.zero_le _
 ·exact zF
 ·rintro i hI
  exact zL
 ·exact fun _ _ _ _ h => .inl h
 rintro i hI
 dsimp only at hI ⊢
 refine yS fun _ K6 => ?_
 refine yS fun _ K7 => ?_
 refine yR ?_
 refine yM rfl rfl ?_
 refine yM rfl rfl ?_
 refine aa rfl (bd rfl rfl (List.length_map _)) ?_
 refine aa rfl (ca rfl rfl rfl) ?_
 refine yN ?_
 dsimp only [St.put]
 refine K7 _ ?_
 refine am rfl (fun hc => ?_) (fun hc => ?_)
 ·replace hc := of_decide_eq_true hc
  obtain ⟨q, hq⟩ : ∃ q, (dc p.text)[i]? = some q := cw (by omega)
  have hqp := allQ_mem.1 (List.mem_of_getElem? hq)
  have hwl : fw p.text x ((dc p.text).take i) ≤ (dc p.text).length := by
   unfold fw
   have := List.length_filter_le (fe p.text x) ((dc p.text).take i)
   rw [List.length_take] at this
   omega
  refine av ?_
  refine K6 _ ?_
  refine yS fun _ K8 => ?_
  refine az ?_
  refine yS fun _ K9 => ?_
  refine fk [(0, none), (1, none), (2, none), (3, none), (4, none), (5, none), (7, none), (8, none), (9, none), (10, none), (11, none), (12, none), (13, none), (14, none), (15, none), (16, none), (17, none), (18, none), (6, none), (19, none)] (fun i => [19].contains i) (fun i => [6, 19].contains i) (fun i => [0, 2, 3, 4, 7, 9, 10, 11, 13, 15, 16, 17].contains i) [] (by kernel_rfl) (by kernel_rfl) ?_
  refine ah rfl rfl rfl rfl (ce rfl rfl rfl) ?_
  try dsimp only [St.put]
  refine ax rfl rfl rfl rfl (c := g5 p.text) (i4 (cs := cells p) rfl rfl (show 1 ≤ 4 by decide)) ?_
  refine xM rfl rfl rfl rfl rfl ?_
  refine xM rfl rfl rfl rfl rfl ?_
  try dsimp only [St.put]
  refine ah rfl rfl rfl rfl (bj rfl rfl rfl rfl (bi (by assumption)) (Enc.len _)) ?_
  try dsimp only [St.put]
  refine ax rfl rfl rfl rfl (d8 rfl rfl (Enc.len _)) ?_
  refine ah rfl rfl rfl rfl (ce rfl rfl rfl) ?_
  try dsimp only [St.put]
  refine ax rfl rfl rfl rfl (bv rfl rfl) ?_
  refine xM rfl rfl rfl rfl rfl ?_
  try dsimp only [St.put]
  refine ah rfl rfl rfl rfl (bj rfl rfl rfl rfl (bi (by assumption)) (Enc.len _)) ?_
  refine ah rfl rfl rfl rfl (ce rfl rfl rfl) ?_
  try dsimp only [St.put]
  refine ax rfl rfl rfl rfl (bv rfl rfl) ?_
  refine ah rfl rfl rfl rfl (ce rfl rfl rfl) ?_
  try dsimp only [St.put]
  refine ax rfl rfl rfl rfl (bv rfl rfl) ?_
  refine xM rfl rfl rfl rfl rfl ?_
  try dsimp only [St.put]
  refine ah rfl rfl rfl rfl (bj rfl rfl rfl rfl (bi (by assumption)) (Enc.len _)) ?_
  refine ah rfl rfl rfl rfl (ce rfl rfl rfl) ?_
  try dsimp only [St.put]
  refine ax rfl rfl rfl rfl (bv rfl rfl) ?_
  refine gw ?_
  try dsimp only [St.put]
  refine i1 rfl rfl rfl (ay rfl rfl rfl (yi p.text q ht hqp) ⟨zD, ?_⟩)
  try dsimp only [St.put]
  refine gr rfl rfl rfl rfl (ay rfl rfl rfl (o5 _ _ _) ?_)
  refine gl ?_
  dsimp only [St.put]
  refine K9 _ ?_
  refine am rfl (fun hc => ?_) (fun hc => ?_)
  ·have hb : fe p.text x q = true := hc
   refine yR ?_
   refine yM rfl rfl ?_
   refine aa rfl (bl rfl rfl rfl (by omega)) ?_
   refine yA rfl rfl ?_
   refine yN ?_
   dsimp only [St.put]
   refine K8 _ ?_
   refine yR ?_
   refine yM rfl rfl ?_
   refine aa rfl (bl rfl rfl rfl (by omega)) ?_
   refine yA rfl rfl ?_
   refine yN ?_
   dsimp only [St.put]
   have e := uav (x := x) hq
   first
   | (have z : fe p.text x q = true := hb
      rw [z, cond_true] at e
      rw [show ((fw p.text x ((dc p.text).take i) : Nat) : Int) + 1 = ((fw p.text x ((dc p.text).take (i + 1)) : Nat) : Int) by rw [e]; rfl]
      exact ⟨i + 1, by omega, by omega, ⟨⟨rfl, rfl⟩, zF, zB, zN, zX⟩⟩)
   | (have z : fe p.text x q = false := hb
      rw [show fw p.text x ((dc p.text).take i) = fw p.text x ((dc p.text).take (i + 1)) by rw [e, z]; rfl]
      exact ⟨i + 1, by omega, by omega, ⟨⟨rfl, rfl⟩, zF, zB, zN, zX⟩⟩)
  have hb : fe p.text x q = false := hc
  refine av ?_
  refine K8 _ ?_
  refine yR ?_
  refine yM rfl rfl ?_
  refine aa rfl (bl rfl rfl rfl (by omega)) ?_
  refine yA rfl rfl ?_
  refine yN ?_
  dsimp only [St.put]
  have e := uav (x := x) hq
  first
  | (have z : fe p.text x q = true := hb
     rw [z, cond_true] at e
     rw [show ((fw p.text x ((dc p.text).take i) : Nat) : Int) + 1 = ((fw p.text x ((dc p.text).take (i + 1)) : Nat) : Int) by rw [e]; rfl]
     exact ⟨i + 1, by omega, by omega, ⟨⟨rfl, rfl⟩, zF, zB, zN, zX⟩⟩)
  | (have z : fe p.text x q = false := hb
     rw [show fw p.text x ((dc p.text).take i) = fw p.text x ((dc p.text).take (i + 1)) by rw [e, z]; rfl]
     exact ⟨i + 1, by omega, by omega, ⟨⟨rfl, rfl⟩, zF, zB, zN, zX⟩⟩)
 replace hc := of_decide_eq_false hc
 obtain rfl : i = (dc p.text).length := by omega
 refine cn ?_
 refine K4 _ ?_
 refine yS fun _ K10 => ?_
 refine yR ?_
 refine yM rfl rfl ?_
 refine yA rfl rfl ?_
 refine yN ?_
 dsimp only [St.put]
 refine K10 _ ?_
 refine ar ?_
 refine ba rfl (by constructor) zN zS ?_
 exact vi (by rw [List.take_length]; rfl)
theorem ujr (p : af) (j : Nat) (x : aq) (b : Bool) (ht : dg p.text = true) (hx : p.pages[j]? = some x) (hf : x.found.length ≤ 1000) (hw : x.well.length ≤ 1000) : Pure Tryz.prog 72 [val p, .v (.int .i64 (j : Int)), .v (.bool b)] (lst (bif b then dw p.text x else dh p.text x)) := by
 refine co Tryz.func72 rfl (fun m => (br _ _)) fun G nx => ?_
 simp only [Tryz.ntmps72, List.length_cons, List.length_nil, Nat.reduceAdd, Nat.reduceSub]
 refine bq fun hlt => ?_
 dsimp only at hlt
 have hal := lh ht
 have hjl := (List.getElem?_eq_some_iff.1 hx).1
 refine yS fun _ K1 => ?_
 refine yR ?_
 try dsimp only [St.put]
 refine yB rfl rfl rfl ?_
 refine yA rfl rfl ?_
 refine yN ?_
 dsimp only [St.put]
 refine K1 _ ?_
 refine yS fun _ K2 => ?_
 refine yR ?_
 refine yA rfl rfl ?_
 refine yN ?_
 dsimp only [St.put]
 refine K2 _ ?_
 refine nh 7 61 3 rfl (by decide) ?_
 dsimp only [List.set_cons_zero, List.set_cons_succ]
 refine yS fun _ K3 => ?_
 refine yR ?_
 refine yF rfl rfl rfl rfl ?_
 refine yL rfl rfl rfl ?_
 refine yM rfl rfl ?_
 refine aa rfl (bj rfl rfl rfl rfl (bi (by assumption)) (Enc.len _)) ?_
 refine yE rfl rfl rfl ?_
 try dsimp only [St.put]
 refine ae rfl (dx rfl ?_)
 try dsimp only [St.put]
 refine ae rfl (c6 rfl rfl rfl zG rfl rfl (by rfl) ?_)
 refine yN ?_
 dsimp only [St.put]
 refine K3 _ ?_
 refine gg (i := 8) rfl zG zC ?_
 dsimp only
 refine yS fun _ K4 => ?_
 refine yR ?_
 refine yF rfl rfl rfl rfl ?_
 try dsimp only [St.put]
 refine bw rfl (c := g5 p.text) (i4 (cs := cells p) rfl rfl (show 1 ≤ 4 by decide)) ?_
 try dsimp only [St.put]
 refine ae rfl (ay rfl rfl rfl (ubx p.text ht) ?_)
 refine yA rfl rfl ?_
 refine yN ?_
 dsimp only [St.put]
 refine K4 _ ?_
 refine yS fun _ K5 => ?_
 refine yS fun _ K6 => ?_
 refine yR ?_
 refine yA rfl rfl ?_
 refine yN ?_
 dsimp only [St.put]
 refine K6 _ ?_
 refine az ?_
 refine cb 13 ?_
 refine zQ ?_
 refine ct ((ak G nx (.tip (na p.text x b 0).length 61 3))) zX ?_
 dsimp only
 refine cr (X := Nat) (fun i => i ≤ (dc p.text).length) (fun i => (dc p.text).length - i) (fun i => [(7, .list ((na p.text x b i).map cells) (.tip nx)), (10, .v (.int .i64 (i : Int))), (11, .any), (12, .any)]) (fun i G' => (ak G nx (.tip (na p.text x b i).length 61 3))) 0 rfl ?_ ?_ ?_ ?_ ?_ ?_
 ·exact Nat.zero_le _
 ·exact zF
 ·exact zX
 ·rintro i hI
  exact zL
 ·rintro i hI
  exact zH
 rintro i hI
 dsimp only at hI ⊢
 refine yS fun _ K7 => ?_
 refine yS fun _ K8 => ?_
 refine yR ?_
 refine yM rfl rfl ?_
 refine yM rfl rfl ?_
 refine aa rfl (bd rfl rfl (List.length_map _)) ?_
 refine aa rfl (ca rfl rfl rfl) ?_
 refine yN ?_
 dsimp only [St.put]
 refine K8 _ ?_
 refine am rfl (fun hc => ?_) (fun hc => ?_)
 ·replace hc := of_decide_eq_true hc
  obtain ⟨q, hq⟩ : ∃ q, (dc p.text)[i]? = some q := cw (by omega)
  have hfl := umr p.text x b i
  refine av ?_
  refine K7 _ ?_
  refine yS fun _ K9 => ?_
  refine az ?_
  refine yS fun _ K10 => ?_
  refine fk [(0, none), (1, none), (2, none), (3, none), (4, none), (5, none), (7, none), (8, none), (9, none), (10, none), (11, none), (12, none), (6, none), (13, none), (14, none), (15, none)] (fun i => [13].contains i) (fun i => [6, 13].contains i) (fun i => [0, 2, 3, 4, 7, 9, 10, 11, 14, 15].contains i) [] (by kernel_rfl) (by kernel_rfl) ?_
  refine ah rfl rfl rfl rfl (ce rfl rfl rfl) ?_
  try dsimp only [St.put]
  refine ax rfl rfl rfl rfl (bv rfl rfl) ?_
  refine xM rfl rfl rfl rfl rfl ?_
  refine xM rfl rfl rfl rfl rfl ?_
  try dsimp only [St.put]
  refine ah rfl rfl rfl rfl (bj rfl rfl rfl rfl (bi (by assumption)) (Enc.len _)) ?_
  try dsimp only [St.put]
  refine ax rfl rfl rfl rfl (d8 rfl rfl (Enc.len _)) ?_
  refine ah rfl rfl rfl rfl (ce rfl rfl rfl) ?_
  try dsimp only [St.put]
  refine ax rfl rfl rfl rfl (bv rfl rfl) ?_
  refine xM rfl rfl rfl rfl rfl ?_
  refine xM rfl rfl rfl rfl rfl ?_
  try dsimp only [St.put]
  refine ah rfl rfl rfl rfl (bj rfl rfl rfl rfl (bi (by assumption)) (Enc.len _)) ?_
  try dsimp only [St.put]
  refine ax rfl rfl rfl rfl (d8 rfl rfl (Enc.len _)) ?_
  refine gw ?_
  try dsimp only [St.put]
  refine i1 rfl rfl rfl (ay rfl rfl rfl (ub0 x.found q hf) ⟨zD, ?_⟩)
  try dsimp only [St.put]
  refine gr rfl rfl rfl rfl (ay rfl rfl rfl (ub0 x.well q hw) ?_)
  refine dd rfl rfl rfl rfl (et rfl (by constructor)) ?_
  refine dd rfl rfl rfl rfl (et rfl (by constructor)) ?_
  refine gl ?_
  dsimp only [St.put]
  refine K10 _ ?_
  refine cb 13 ?_
  refine zQ ?_
  refine j0 (X := Bool) (fun d => jb x b q = d) (fun d => [(54, .v (.bool d))]) (fun d G' => G') rfl ?_ (fun _ _ _ _ h => .inl h) ?_ ?_
  ·rintro d hI
   exact zL
  ·refine yR ?_
   refine yM rfl rfl ?_
   refine yM rfl rfl ?_
   refine ed (fun hs => ?_) (fun hs => ?_)
   ·have s1 := hs
    refine yM rfl rfl ?_
    refine aa rfl (bu rfl rfl (by constructor)) ?_
    refine ed (fun hs => ?_) (fun hs => ?_)
    ·have s3 := hs
     refine yM rfl rfl ?_
     refine yK rfl ?_
     refine yK rfl ?_
     refine yK rfl ?_
     refine yK rfl ?_
     refine yK rfl ?_
     refine yK rfl ?_
     refine yK rfl ?_
     refine yK rfl ?_
     refine aa rfl (bu rfl rfl (by constructor)) ?_
     refine yN ?_
     dsimp only [St.put]
     refine ⟨_, ?_, ⟨⟨rfl, rfl⟩, zF, zB, zN, zX⟩⟩
     cases b <;> simp_all [jb]
    have s3 := hs
    refine yM rfl rfl ?_
    refine yM rfl rfl ?_
    refine aa rfl (dl rfl rfl) ?_
    refine ed (fun hs => ?_) (fun hs => ?_)
    ·have s6 := hs
     refine yM rfl rfl ?_
     refine yM rfl rfl ?_
     refine ed (fun hs => ?_) (fun hs => ?_)
     ·have s8 := hs
      refine yM rfl rfl ?_
      refine yK rfl ?_
      refine aa rfl (bu rfl rfl (by constructor)) ?_
      refine aa rfl (bu rfl rfl (by constructor)) ?_
      refine aa rfl (cd rfl rfl (by constructor)) ?_
      refine yN ?_
      dsimp only [St.put]
      refine ⟨_, ?_, ⟨⟨rfl, rfl⟩, zF, zB, zN, zX⟩⟩
      cases b <;> simp_all [jb]
     have s8 := hs
     refine yM rfl rfl ?_
     refine yM rfl rfl ?_
     refine aa rfl (cd rfl rfl (by constructor)) ?_
     refine aa rfl (bu rfl rfl (by constructor)) ?_
     refine aa rfl (cd rfl rfl (by constructor)) ?_
     refine yN ?_
     dsimp only [St.put]
     refine ⟨_, ?_, ⟨⟨rfl, rfl⟩, zF, zB, zN, zX⟩⟩
     cases b <;> simp_all [jb]
    have s6 := hs
    refine yM rfl rfl ?_
    refine yK rfl ?_
    refine yK rfl ?_
    refine yK rfl ?_
    refine yK rfl ?_
    refine aa rfl (cd rfl rfl (by constructor)) ?_
    refine aa rfl (cd rfl rfl (by constructor)) ?_
    refine yN ?_
    dsimp only [St.put]
    refine ⟨_, ?_, ⟨⟨rfl, rfl⟩, zF, zB, zN, zX⟩⟩
    cases b <;> simp_all [jb]
   have s1 := hs
   refine yK rfl ?_
   refine aa rfl (cd rfl rfl (by constructor)) ?_
   refine yM rfl rfl ?_
   refine yM rfl rfl ?_
   refine aa rfl (dl rfl rfl) ?_
   refine ed (fun hs => ?_) (fun hs => ?_)
   ·have s6 := hs
    refine yM rfl rfl ?_
    refine yM rfl rfl ?_
    refine ed (fun hs => ?_) (fun hs => ?_)
    ·have s8 := hs
     refine yM rfl rfl ?_
     refine yK rfl ?_
     refine aa rfl (bu rfl rfl (by constructor)) ?_
     refine aa rfl (bu rfl rfl (by constructor)) ?_
     refine aa rfl (cd rfl rfl (by constructor)) ?_
     refine yN ?_
     dsimp only [St.put]
     refine ⟨_, ?_, ⟨⟨rfl, rfl⟩, zF, zB, zN, zX⟩⟩
     cases b <;> simp_all [jb]
    have s8 := hs
    refine yM rfl rfl ?_
    refine yM rfl rfl ?_
    refine aa rfl (cd rfl rfl (by constructor)) ?_
    refine aa rfl (bu rfl rfl (by constructor)) ?_
    refine aa rfl (cd rfl rfl (by constructor)) ?_
    refine yN ?_
    dsimp only [St.put]
    refine ⟨_, ?_, ⟨⟨rfl, rfl⟩, zF, zB, zN, zX⟩⟩
    cases b <;> simp_all [jb]
   have s6 := hs
   refine yM rfl rfl ?_
   refine yK rfl ?_
   refine yK rfl ?_
   refine yK rfl ?_
   refine yK rfl ?_
   refine aa rfl (cd rfl rfl (by constructor)) ?_
   refine aa rfl (cd rfl rfl (by constructor)) ?_
   refine yN ?_
   dsimp only [St.put]
   refine ⟨_, ?_, ⟨⟨rfl, rfl⟩, zF, zB, zN, zX⟩⟩
   cases b <;> simp_all [jb]
  rintro d hst
  dsimp only at hst ⊢
  refine am rfl (fun hc => ?_) (fun hc => ?_)
  ·have hb : jb x b q = true := hst.trans hc
   refine yR ?_
   refine yM rfl rfl ?_
   refine yM rfl rfl ?_
   refine yM rfl rfl ?_
   refine aa rfl (bj rfl rfl rfl rfl (bi (by assumption)) (Enc.len _)) ?_
   refine yE rfl rfl rfl ?_
   try dsimp only [St.put]
   refine ae rfl (dp rfl rfl rfl (by decide) (by decide) zR (by decide) ?_)
   try dsimp only [St.put]
   refine ae rfl (jr ([q]) rfl rfl zG zE rfl rfl zA ?_ zA)
   refine yA rfl rfl ?_
   refine yN ?_
   dsimp only [St.put]
   refine K9 _ ?_
   refine yR ?_
   refine yM rfl rfl ?_
   refine aa rfl (bl rfl rfl rfl (by omega)) ?_
   refine yA rfl rfl ?_
   refine yN ?_
   dsimp only [St.put]
   have e := ud6 (x := x) (b := b) hq
   first
   | (have z : jb x b q = true := hb
      rw [z, cond_true] at e
      rw [← e]
      exact ⟨i + 1, by omega, by omega, ⟨⟨rfl, rfl⟩, zF, zB, zN, zX⟩⟩)
   | (have z : jb x b q = false := hb
      rw [z, cond_false, List.append_nil] at e
      rw [← e]
      exact ⟨i + 1, by omega, by omega, ⟨⟨rfl, rfl⟩, zF, zB, zN, zX⟩⟩)
  have hb : jb x b q = false := hst.trans hc
  refine av ?_
  refine K9 _ ?_
  refine yR ?_
  refine yM rfl rfl ?_
  refine aa rfl (bl rfl rfl rfl (by omega)) ?_
  refine yA rfl rfl ?_
  refine yN ?_
  dsimp only [St.put]
  have e := ud6 (x := x) (b := b) hq
  first
  | (have z : jb x b q = true := hb
     rw [z, cond_true] at e
     rw [← e]
     exact ⟨i + 1, by omega, by omega, ⟨⟨rfl, rfl⟩, zF, zB, zN, zX⟩⟩)
  | (have z : jb x b q = false := hb
     rw [z, cond_false, List.append_nil] at e
     rw [← e]
     exact ⟨i + 1, by omega, by omega, ⟨⟨rfl, rfl⟩, zF, zB, zN, zX⟩⟩)
 replace hc := of_decide_eq_false hc
 obtain rfl : i = (dc p.text).length := by omega
 have hfin := ums p.text x b
 refine cn ?_
 refine K5 _ ?_
 refine yS fun _ K12 => ?_
 refine yR ?_
 refine yM rfl rfl ?_
 refine yA rfl rfl ?_
 refine yN ?_
 dsimp only [St.put]
 refine K12 _ ?_
 refine ar ?_
 refine pi rfl (d7 (by constructor)) zN zS ?_
 rw [← hfin]
 exact zW
end Go.Proofs.YtbbdginipiljdaaGreatDoor
namespace Go.AB
open Go Go.RowKit
open Go.AB.Enc (cells)
open Go.PB (aw ai PlaceD bc bg bf bp aq af ci bn cx cz)
theorem u6 {l : List aq} {g : aq → Nat} (k : Nat) : cc (l.take k) g ≤ cc l g := by
 have h : cc l g = cc (l.take k) g + cc (l.drop k) g := by
  unfold cc
  rw [← List.sum_append, ← List.map_append, List.take_append_drop]
 omega
theorem uc9 {p : af} {b : Bool} {i : Nat} {r : bp} (h : (dj p b)[i]? = some r) : kz p b i = r.miss := by unfold kz; rw [h]
theorem um4 (R : Nat → Int) (S : Nat → Bool) (k : Nat) : fR R S (k + 1) = fR R S k + bif S k then R k else 0 := rfl
theorem uen (p : af) (C : Nat → Int) (S : Nat → Bool) (k : Nat) : fC p C S (k + 1) = fC p C S k + bif (bk p).hit S k then 0 else C k := rfl
end Go.AB
namespace Go.Proofs.YtbbdginipiljdaaGreatDoor
set_option maxRecDepth 10000
open Go.RowKit Go.AB
open Go.AB.Enc (cells)
open Go.PB (aw ai PlaceD bc bg bf bp aq af ci bn cx cz)
theorem ubz (p : af) (j : Nat) (x : aq) (b : Bool) (i : Int) (hx : p.pages[j]? = some x) : Pure Tryz.prog 74 [val p, .v (.int .i64 (j : Int)), .v (.bool b), .v (.int .i64 i)] (.v (.bool (decide (dv b x = i)))) := by
 refine co Tryz.func74 rfl (fun m => .v) fun G nx => ?_
 simp only [Tryz.ntmps74, List.length_cons, List.length_nil, Nat.reduceAdd, Nat.reduceSub]
 refine bq fun hlt => ?_
 dsimp only at hlt
 have hjl := (List.getElem?_eq_some_iff.1 hx).1
 refine yS fun _ K1 => ?_
 refine yR ?_
 try dsimp only [St.put]
 refine yB rfl rfl rfl ?_
 refine yA rfl rfl ?_
 refine yN ?_
 dsimp only [St.put]
 refine K1 _ ?_
 refine yS fun _ K2 => ?_
 refine yS fun _ K3 => ?_
 refine yR ?_
 refine yM rfl rfl ?_
 refine yN ?_
 dsimp only [St.put]
 refine K3 _ ?_
 refine am rfl (fun hc => ?_) (fun hc => ?_)
 ·have hb : b = true := hc
  refine yS fun _ K4 => ?_
  refine yR ?_
  refine yF rfl rfl rfl rfl ?_
  refine yL rfl rfl rfl ?_
  refine yM rfl rfl ?_
  refine aa rfl (bj rfl rfl rfl rfl (bi (by assumption)) (Enc.len _)) ?_
  refine yF rfl rfl rfl rfl ?_
  refine yL rfl rfl rfl ?_
  refine yM rfl rfl ?_
  refine aa rfl (ff rfl rfl rfl) ?_
  refine yA rfl rfl ?_
  refine yN ?_
  dsimp only [St.put]
  refine K4 _ ?_
  refine ar ?_
  refine ba rfl (by constructor) zN zS ?_
  exact vb (by rw [hb]; rfl)
 have hb : b = false := hc
 refine av ?_
 refine K2 _ ?_
 refine yS fun _ K5 => ?_
 refine yR ?_
 refine yF rfl rfl rfl rfl ?_
 refine yL rfl rfl rfl ?_
 refine yM rfl rfl ?_
 refine aa rfl (bj rfl rfl rfl rfl (bi (by assumption)) (Enc.len _)) ?_
 refine yF rfl rfl rfl rfl ?_
 refine yL rfl rfl rfl ?_
 refine yM rfl rfl ?_
 refine aa rfl (ff rfl rfl rfl) ?_
 refine yA rfl rfl ?_
 refine yN ?_
 dsimp only [St.put]
 refine K5 _ ?_
 refine ar ?_
 refine ba rfl (by constructor) zN zS ?_
 exact vb (by rw [hb]; rfl)
theorem ub1 (p : af) (j : Nat) (x : aq) (ht : dg p.text = true) (hx : p.pages[j]? = some x) (hf : x.found.length ≤ 1000) (hw : x.well.length ≤ 1000) : Pure Tryz.prog 72 [val p, .v (.int .i64 (j : Int)), .v (.bool false)] (lst (dh p.text x)) := ujr p j x false ht hx hf hw
set_option maxHeartbeats 1000000 in
theorem ujs (p : af) (b : Bool) (i : Nat) (h : dz p) (hi : i < (dj p b).length) : Pure Tryz.prog 75 [val p, .v (.bool b), .v (.int .i64 (i : Int))] (.tup [.v (.int .i64 (jn p b i)), .v (.int .i64 (k8 p b i))]) := by
 refine co Tryz.func75 rfl (fun m => .tup (bz .v (bz .v c5))) fun G nx => ?_
 simp only [Tryz.ntmps75, List.length_cons, List.length_nil, Nat.reduceAdd, Nat.reduceSub]
 refine bq fun hlt => ?_
 dsimp only at hlt
 have hown := yo h b (i : Int)
 have hrd := yh h b (i : Int)
 have hal := lh h.text
 have hnp := h.np
 have hmb := y5 h b i
 obtain ⟨r, hr⟩ : ∃ r, (dj p b)[i]? = some r := cw hi
 have hmr := uc9 hr
 refine yS fun _ K1 => ?_
 refine yR ?_
 try dsimp only [St.put]
 refine yB rfl rfl rfl ?_
 refine yA rfl rfl ?_
 refine yA rfl rfl ?_
 refine yN ?_
 dsimp only [St.put]
 refine K1 _ ?_
 refine yS fun _ K2 => ?_
 refine yR ?_
 refine yA rfl rfl ?_
 refine yA rfl rfl ?_
 refine yN ?_
 dsimp only [St.put]
 refine K2 _ ?_
 refine yS fun _ K3 => ?_
 refine yS fun _ K4 => ?_
 refine yR ?_
 refine yA rfl rfl ?_
 refine yN ?_
 dsimp only [St.put]
 refine K4 _ ?_
 refine az ?_
 refine cb 13 ?_
 refine zQ ?_
 refine ct (G) zX ?_
 dsimp only
 refine cr (X := Nat) (fun k => k ≤ p.pages.length) (fun k => p.pages.length - k) (fun k => [(8, .v (.int .i64 ((cc (p.pages.take k) (c4 b (i : Int)) : Nat) : Int))), (9, .v (.int .i64 ((cc (p.pages.take k) (dm p.text b (i : Int)) : Nat) : Int))), (10, .v (.int .i64 (k : Int)))]) (fun k G' => G') 0 rfl ?_ ?_ (fun _ _ h => h) ?_ ?_ ?_
 ·exact Nat.zero_le _
 ·exact zF
 ·rintro k hI
  exact zL
 ·exact fun _ _ _ _ h => .inl h
 rintro k hI
 dsimp only at hI ⊢
 refine yS fun _ K5 => ?_
 refine yS fun _ K6 => ?_
 refine yR ?_
 refine yM rfl rfl ?_
 refine yF rfl rfl rfl rfl ?_
 refine yL rfl rfl rfl ?_
 refine aa rfl (bd rfl rfl (List.length_map _)) ?_
 refine aa rfl (ca rfl rfl rfl) ?_
 refine yN ?_
 dsimp only [St.put]
 refine K6 _ ?_
 refine am rfl (fun hc => ?_) (fun hc => ?_)
 ·replace hc := of_decide_eq_true hc
  obtain ⟨x, hx⟩ : ∃ x, p.pages[k]? = some x := cw (by omega)
  have hp := pageB_true.1 (h.page k x hx)
  have hfl := lu hp.found
  have hwl := lu hp.well
  have hgl := rp p.text x
  have ht1 := u6 (l := p.pages) (g := c4 b (i : Int)) k
  have ht2 := u6 (l := p.pages) (g := dm p.text b (i : Int)) k
  refine av ?_
  refine K5 _ ?_
  refine yS fun _ K7 => ?_
  refine az ?_
  refine yS fun _ K8 => ?_
  refine yS fun _ K9 => ?_
  refine yR ?_
  refine yE rfl rfl rfl ?_
  refine yM rfl rfl ?_
  refine yM rfl rfl ?_
  refine yM rfl rfl ?_
  try dsimp only [St.put]
  refine ae rfl (ay rfl rfl rfl (ubz p k x b (i : Int) hx) ?_)
  refine aa rfl (dl rfl rfl) ?_
  refine yN ?_
  dsimp only [St.put]
  refine K9 _ ?_
  refine am rfl (fun hc => ?_) (fun hc => ?_)
  ·have hno : ¬ dv b x = (i : Int) := by simpa using hc
   refine cn ?_
   refine K7 _ ?_
   refine yR ?_
   refine yM rfl rfl ?_
   refine aa rfl (bl rfl rfl rfl (by omega)) ?_
   refine yA rfl rfl ?_
   refine yN ?_
   dsimp only [St.put]
   have e1 := l4 (g := c4 b (i : Int)) hx
   have e2 := l4 (g := dm p.text b (i : Int)) hx
   first
   | (have z : ¬ dv b x = (i : Int) := hno
      rw [show cc (p.pages.take k) (c4 b (i : Int)) = cc (p.pages.take (k + 1)) (c4 b (i : Int)) by rw [e1]; unfold c4; rw [decide_eq_false z]; rfl, show cc (p.pages.take k) (dm p.text b (i : Int)) = cc (p.pages.take (k + 1)) (dm p.text b (i : Int)) by rw [e2]; unfold dm; rw [decide_eq_false z]; rfl]
      exact ⟨k + 1, by omega, by omega, ⟨⟨rfl, rfl⟩, zF, zB, zN, zX⟩⟩)
   | (have z : b = true := hb
      rw [show ((cc (p.pages.take k) (c4 b (i : Int)) : Nat) : Int) + (x.well.length : Int) = ((cc (p.pages.take (k + 1)) (c4 b (i : Int)) : Nat) : Int) by rw [e1]; unfold c4; rw [decide_eq_true hyes, cond_true, z]; rfl, show ((cc (p.pages.take k) (dm p.text b (i : Int)) : Nat) : Int) + ((dh p.text x).length : Int) = ((cc (p.pages.take (k + 1)) (dm p.text b (i : Int)) : Nat) : Int) by rw [e2]; unfold dm; rw [decide_eq_true hyes, cond_true]; rfl]
      exact ⟨k + 1, by omega, by omega, ⟨⟨rfl, rfl⟩, zF, zB, zN, zX⟩⟩)
   | (have z : b = false := hb
      rw [show ((cc (p.pages.take k) (c4 b (i : Int)) : Nat) : Int) + (x.found.length : Int) = ((cc (p.pages.take (k + 1)) (c4 b (i : Int)) : Nat) : Int) by rw [e1]; unfold c4; rw [decide_eq_true hyes, cond_true, z]; rfl, show ((cc (p.pages.take k) (dm p.text b (i : Int)) : Nat) : Int) + ((dh p.text x).length : Int) = ((cc (p.pages.take (k + 1)) (dm p.text b (i : Int)) : Nat) : Int) by rw [e2]; unfold dm; rw [decide_eq_true hyes, cond_true]; rfl]
      exact ⟨k + 1, by omega, by omega, ⟨⟨rfl, rfl⟩, zF, zB, zN, zX⟩⟩)
  have hyes : dv b x = (i : Int) := by simpa using hc
  refine av ?_
  refine K8 _ ?_
  refine yS fun _ K10 => ?_
  refine yR ?_
  refine yM rfl rfl ?_
  refine yE rfl rfl rfl ?_
  refine yM rfl rfl ?_
  try dsimp only [St.put]
  refine ae rfl (ay rfl rfl rfl (ub1 p k x h.text hx (by omega) (by omega)) ?_)
  refine aa rfl (bd rfl rfl (List.length_map _)) ?_
  refine aa rfl (bl rfl rfl rfl (by omega)) ?_
  refine yA rfl rfl ?_
  refine yN ?_
  dsimp only [St.put]
  refine K10 _ ?_
  refine yS fun _ K11 => ?_
  refine yR ?_
  refine yM rfl rfl ?_
  refine yN ?_
  dsimp only [St.put]
  refine K11 _ ?_
  refine am rfl (fun hc => ?_) (fun hc => ?_)
  ·have hb : b = true := hc
   refine yR ?_
   refine yM rfl rfl ?_
   refine yF rfl rfl rfl rfl ?_
   refine yL rfl rfl rfl ?_
   refine yM rfl rfl ?_
   refine aa rfl (bj rfl rfl rfl rfl (bi (by assumption)) (Enc.len _)) ?_
   refine yF rfl rfl rfl rfl ?_
   refine yL rfl rfl rfl ?_
   refine aa rfl (bd rfl rfl (List.length_map _)) ?_
   refine aa rfl (bl rfl rfl rfl (by omega)) ?_
   refine yA rfl rfl ?_
   refine yN ?_
   dsimp only [St.put]
   refine K7 _ ?_
   refine yR ?_
   refine yM rfl rfl ?_
   refine aa rfl (bl rfl rfl rfl (by omega)) ?_
   refine yA rfl rfl ?_
   refine yN ?_
   dsimp only [St.put]
   have e1 := l4 (g := c4 b (i : Int)) hx
   have e2 := l4 (g := dm p.text b (i : Int)) hx
   first
   | (have z : ¬ dv b x = (i : Int) := hno
      rw [show cc (p.pages.take k) (c4 b (i : Int)) = cc (p.pages.take (k + 1)) (c4 b (i : Int)) by rw [e1]; unfold c4; rw [decide_eq_false z]; rfl, show cc (p.pages.take k) (dm p.text b (i : Int)) = cc (p.pages.take (k + 1)) (dm p.text b (i : Int)) by rw [e2]; unfold dm; rw [decide_eq_false z]; rfl]
      exact ⟨k + 1, by omega, by omega, ⟨⟨rfl, rfl⟩, zF, zB, zN, zX⟩⟩)
   | (have z : b = true := hb
      rw [show ((cc (p.pages.take k) (c4 b (i : Int)) : Nat) : Int) + (x.well.length : Int) = ((cc (p.pages.take (k + 1)) (c4 b (i : Int)) : Nat) : Int) by rw [e1]; unfold c4; rw [decide_eq_true hyes, cond_true, z]; rfl, show ((cc (p.pages.take k) (dm p.text b (i : Int)) : Nat) : Int) + ((dh p.text x).length : Int) = ((cc (p.pages.take (k + 1)) (dm p.text b (i : Int)) : Nat) : Int) by rw [e2]; unfold dm; rw [decide_eq_true hyes, cond_true]; rfl]
      exact ⟨k + 1, by omega, by omega, ⟨⟨rfl, rfl⟩, zF, zB, zN, zX⟩⟩)
   | (have z : b = false := hb
      rw [show ((cc (p.pages.take k) (c4 b (i : Int)) : Nat) : Int) + (x.found.length : Int) = ((cc (p.pages.take (k + 1)) (c4 b (i : Int)) : Nat) : Int) by rw [e1]; unfold c4; rw [decide_eq_true hyes, cond_true, z]; rfl, show ((cc (p.pages.take k) (dm p.text b (i : Int)) : Nat) : Int) + ((dh p.text x).length : Int) = ((cc (p.pages.take (k + 1)) (dm p.text b (i : Int)) : Nat) : Int) by rw [e2]; unfold dm; rw [decide_eq_true hyes, cond_true]; rfl]
      exact ⟨k + 1, by omega, by omega, ⟨⟨rfl, rfl⟩, zF, zB, zN, zX⟩⟩)
  have hb : b = false := hc
  refine yR ?_
  refine yM rfl rfl ?_
  refine yF rfl rfl rfl rfl ?_
  refine yL rfl rfl rfl ?_
  refine yM rfl rfl ?_
  refine aa rfl (bj rfl rfl rfl rfl (bi (by assumption)) (Enc.len _)) ?_
  refine yF rfl rfl rfl rfl ?_
  refine yL rfl rfl rfl ?_
  refine aa rfl (bd rfl rfl (List.length_map _)) ?_
  refine aa rfl (bl rfl rfl rfl (by omega)) ?_
  refine yA rfl rfl ?_
  refine yN ?_
  dsimp only [St.put]
  refine K7 _ ?_
  refine yR ?_
  refine yM rfl rfl ?_
  refine aa rfl (bl rfl rfl rfl (by omega)) ?_
  refine yA rfl rfl ?_
  refine yN ?_
  dsimp only [St.put]
  have e1 := l4 (g := c4 b (i : Int)) hx
  have e2 := l4 (g := dm p.text b (i : Int)) hx
  first
  | (have z : ¬ dv b x = (i : Int) := hno
     rw [show cc (p.pages.take k) (c4 b (i : Int)) = cc (p.pages.take (k + 1)) (c4 b (i : Int)) by rw [e1]; unfold c4; rw [decide_eq_false z]; rfl, show cc (p.pages.take k) (dm p.text b (i : Int)) = cc (p.pages.take (k + 1)) (dm p.text b (i : Int)) by rw [e2]; unfold dm; rw [decide_eq_false z]; rfl]
     exact ⟨k + 1, by omega, by omega, ⟨⟨rfl, rfl⟩, zF, zB, zN, zX⟩⟩)
  | (have z : b = true := hb
     rw [show ((cc (p.pages.take k) (c4 b (i : Int)) : Nat) : Int) + (x.well.length : Int) = ((cc (p.pages.take (k + 1)) (c4 b (i : Int)) : Nat) : Int) by rw [e1]; unfold c4; rw [decide_eq_true hyes, cond_true, z]; rfl, show ((cc (p.pages.take k) (dm p.text b (i : Int)) : Nat) : Int) + ((dh p.text x).length : Int) = ((cc (p.pages.take (k + 1)) (dm p.text b (i : Int)) : Nat) : Int) by rw [e2]; unfold dm; rw [decide_eq_true hyes, cond_true]; rfl]
     exact ⟨k + 1, by omega, by omega, ⟨⟨rfl, rfl⟩, zF, zB, zN, zX⟩⟩)
  | (have z : b = false := hb
     rw [show ((cc (p.pages.take k) (c4 b (i : Int)) : Nat) : Int) + (x.found.length : Int) = ((cc (p.pages.take (k + 1)) (c4 b (i : Int)) : Nat) : Int) by rw [e1]; unfold c4; rw [decide_eq_true hyes, cond_true, z]; rfl, show ((cc (p.pages.take k) (dm p.text b (i : Int)) : Nat) : Int) + ((dh p.text x).length : Int) = ((cc (p.pages.take (k + 1)) (dm p.text b (i : Int)) : Nat) : Int) by rw [e2]; unfold dm; rw [decide_eq_true hyes, cond_true]; rfl]
     exact ⟨k + 1, by omega, by omega, ⟨⟨rfl, rfl⟩, zF, zB, zN, zX⟩⟩)
 replace hc := of_decide_eq_false hc
 obtain rfl : k = p.pages.length := by omega
 refine cn ?_
 refine K3 _ ?_
 refine yS fun _ K12 => ?_
 refine yR ?_
 refine yA rfl rfl ?_
 refine yN ?_
 dsimp only [St.put]
 rw [f5 (Nat.le_refl p.pages.length)]
 refine K12 _ ?_
 refine yS fun _ K13 => ?_
 refine yS fun _ K14 => ?_
 refine yR ?_
 refine yM rfl rfl ?_
 refine yN ?_
 dsimp only [St.put]
 refine K14 _ ?_
 refine am rfl (fun hc => ?_) (fun hc => ?_)
 ·have hb2 : b = true := hc
  have hr2 : p.seconds[i]? = some r := by rw [hb2] at hr; exact hr
  have hil := (List.getElem?_eq_some_iff.1 hr2).1
  refine yR ?_
  refine yF rfl rfl rfl rfl ?_
  refine yL rfl rfl rfl ?_
  refine yM rfl rfl ?_
  refine aa rfl (bj rfl rfl rfl rfl (bi (by assumption)) (Enc.len _)) ?_
  refine yF rfl rfl rfl rfl ?_
  refine yL rfl rfl rfl ?_
  refine yA rfl rfl ?_
  refine yN ?_
  dsimp only [St.put]
  refine K13 _ ?_
  refine yS fun _ K15 => ?_
  refine yR ?_
  refine yM rfl rfl ?_
  refine aa rfl (tj rfl rfl rfl (by omega)) ?_
  refine yM rfl rfl ?_
  refine aa rfl (fq rfl rfl rfl (by omega)) ?_
  refine aa rfl (ti rfl rfl rfl (by omega) (by omega)) ?_
  refine yA rfl rfl ?_
  refine yN ?_
  dsimp only [St.put]
  rw [show (100 * ((cc p.pages (c4 b (i : Int)) : Nat) : Int)) / (100 - r.miss) = jn p b i by unfold jn; rw [hmr]]
  have hbd := xb h b i
  refine K15 _ ?_
  refine yS fun _ K16 => ?_
  refine yR ?_
  refine yM rfl rfl ?_
  refine yM rfl rfl ?_
  refine yM rfl rfl ?_
  refine aa rfl (fq rfl rfl rfl (by omega)) ?_
  refine yA rfl rfl ?_
  refine yA rfl rfl ?_
  refine yN ?_
  dsimp only [St.put]
  refine K16 _ ?_
  refine ar ?_
  refine jl rfl (by constructor) (by constructor) zN zS ?_ ?_
  ·rfl
  exact vi (by unfold k8; rfl)
 have hb2 : b = false := hc
 have hr2 : p.firsts[i]? = some r := by rw [hb2] at hr; exact hr
 have hil := (List.getElem?_eq_some_iff.1 hr2).1
 refine yR ?_
 refine yF rfl rfl rfl rfl ?_
 refine yL rfl rfl rfl ?_
 refine yM rfl rfl ?_
 refine aa rfl (bj rfl rfl rfl rfl (bi (by assumption)) (Enc.len _)) ?_
 refine yF rfl rfl rfl rfl ?_
 refine yL rfl rfl rfl ?_
 refine yA rfl rfl ?_
 refine yN ?_
 dsimp only [St.put]
 refine K13 _ ?_
 refine yS fun _ K17 => ?_
 refine yR ?_
 refine yM rfl rfl ?_
 refine aa rfl (tj rfl rfl rfl (by omega)) ?_
 refine yM rfl rfl ?_
 refine aa rfl (fq rfl rfl rfl (by omega)) ?_
 refine aa rfl (ti rfl rfl rfl (by omega) (by omega)) ?_
 refine yA rfl rfl ?_
 refine yN ?_
 dsimp only [St.put]
 rw [show (100 * ((cc p.pages (c4 b (i : Int)) : Nat) : Int)) / (100 - r.miss) = jn p b i by unfold jn; rw [hmr]]
 have hbd := xb h b i
 refine K17 _ ?_
 refine yS fun _ K18 => ?_
 refine yR ?_
 refine yM rfl rfl ?_
 refine yM rfl rfl ?_
 refine yM rfl rfl ?_
 refine aa rfl (fq rfl rfl rfl (by omega)) ?_
 refine yA rfl rfl ?_
 refine yA rfl rfl ?_
 refine yN ?_
 dsimp only [St.put]
 refine K18 _ ?_
 refine ar ?_
 refine jl rfl (by constructor) (by constructor) zN zS ?_ ?_
 ·rfl
 exact vi (by unfold k8; rfl)
end Go.Proofs.YtbbdginipiljdaaGreatDoor
namespace Go.Proofs.YtbbdginipiljdaaGreatDoor
set_option maxRecDepth 10000
open Go Go.RowKit Go.AB
open Go.AB.Enc (cells)
open Go.PB (aw ai PlaceD bc bg bf bp aq af ci bn cx cz)
theorem uin (p : af) : Pure Tryz.prog 157 [val p] (lst p.firsts) := by
 refine co Tryz.func157 rfl (fun m => (br _ _)) fun G nx => ?_
 simp only [Tryz.ntmps157, List.length_cons, List.length_nil, Nat.reduceAdd, Nat.reduceSub]
 refine bq fun hlt => ?_
 dsimp only at hlt
 refine yS fun _ K1 => ?_
 refine yR ?_
 try dsimp only [St.put]
 refine yB rfl rfl rfl ?_
 refine yA rfl rfl ?_
 refine yN ?_
 dsimp only [St.put]
 refine K1 _ ?_
 refine yS fun _ K2 => ?_
 refine yR ?_
 refine yF rfl rfl rfl rfl ?_
 refine yL rfl rfl rfl ?_
 refine yA rfl rfl ?_
 refine yN ?_
 dsimp only [St.put]
 refine K2 _ ?_
 refine ar ?_
 refine ba rfl (by constructor) zN zS ?_
 rfl
theorem uim (x : aq) : Pure Tryz.prog 158 [val x] (.v (.int .i64 x.fst)) := by
 refine co Tryz.func158 rfl (fun m => .v) fun G nx => ?_
 simp only [Tryz.ntmps158, List.length_cons, List.length_nil, Nat.reduceAdd, Nat.reduceSub]
 refine bq fun hlt => ?_
 dsimp only at hlt
 refine yS fun _ K1 => ?_
 refine yR ?_
 try dsimp only [St.put]
 refine yB rfl rfl rfl ?_
 refine yA rfl rfl ?_
 refine yN ?_
 dsimp only [St.put]
 refine K1 _ ?_
 refine yS fun _ K2 => ?_
 refine yR ?_
 refine yF rfl rfl rfl rfl ?_
 refine yL rfl rfl rfl ?_
 refine yA rfl rfl ?_
 refine yN ?_
 dsimp only [St.put]
 refine K2 _ ?_
 refine ar ?_
 refine ba rfl (by constructor) zN zS ?_
 rfl
theorem uil (x : aq) : Pure Tryz.prog 159 [val x] (lst x.found) := by
 refine co Tryz.func159 rfl (fun m => (br _ _)) fun G nx => ?_
 simp only [Tryz.ntmps159, List.length_cons, List.length_nil, Nat.reduceAdd, Nat.reduceSub]
 refine bq fun hlt => ?_
 dsimp only at hlt
 refine yS fun _ K1 => ?_
 refine yR ?_
 try dsimp only [St.put]
 refine yB rfl rfl rfl ?_
 refine yA rfl rfl ?_
 refine yN ?_
 dsimp only [St.put]
 refine K1 _ ?_
 refine yS fun _ K2 => ?_
 refine yR ?_
 refine yF rfl rfl rfl rfl ?_
 refine yL rfl rfl rfl ?_
 refine yA rfl rfl ?_
 refine yN ?_
 dsimp only [St.put]
 refine K2 _ ?_
 refine ar ?_
 refine ba rfl (by constructor) zN zS ?_
 rfl
theorem uik (p : af) : Pure Tryz.prog 160 [val p] (lst p.seconds) := by
 refine co Tryz.func160 rfl (fun m => (br _ _)) fun G nx => ?_
 simp only [Tryz.ntmps160, List.length_cons, List.length_nil, Nat.reduceAdd, Nat.reduceSub]
 refine bq fun hlt => ?_
 dsimp only at hlt
 refine yS fun _ K1 => ?_
 refine yR ?_
 try dsimp only [St.put]
 refine yB rfl rfl rfl ?_
 refine yA rfl rfl ?_
 refine yN ?_
 dsimp only [St.put]
 refine K1 _ ?_
 refine yS fun _ K2 => ?_
 refine yR ?_
 refine yF rfl rfl rfl rfl ?_
 refine yL rfl rfl rfl ?_
 refine yA rfl rfl ?_
 refine yN ?_
 dsimp only [St.put]
 refine K2 _ ?_
 refine ar ?_
 refine ba rfl (by constructor) zN zS ?_
 rfl
theorem uij (x : aq) : Pure Tryz.prog 161 [val x] (.v (.int .i64 x.snd)) := by
 refine co Tryz.func161 rfl (fun m => .v) fun G nx => ?_
 simp only [Tryz.ntmps161, List.length_cons, List.length_nil, Nat.reduceAdd, Nat.reduceSub]
 refine bq fun hlt => ?_
 dsimp only at hlt
 refine yS fun _ K1 => ?_
 refine yR ?_
 try dsimp only [St.put]
 refine yB rfl rfl rfl ?_
 refine yA rfl rfl ?_
 refine yN ?_
 dsimp only [St.put]
 refine K1 _ ?_
 refine yS fun _ K2 => ?_
 refine yR ?_
 refine yF rfl rfl rfl rfl ?_
 refine yL rfl rfl rfl ?_
 refine yA rfl rfl ?_
 refine yN ?_
 dsimp only [St.put]
 refine K2 _ ?_
 refine ar ?_
 refine ba rfl (by constructor) zN zS ?_
 rfl
theorem uii (x : aq) : Pure Tryz.prog 162 [val x] (lst x.well) := by
 refine co Tryz.func162 rfl (fun m => (br _ _)) fun G nx => ?_
 simp only [Tryz.ntmps162, List.length_cons, List.length_nil, Nat.reduceAdd, Nat.reduceSub]
 refine bq fun hlt => ?_
 dsimp only at hlt
 refine yS fun _ K1 => ?_
 refine yR ?_
 try dsimp only [St.put]
 refine yB rfl rfl rfl ?_
 refine yA rfl rfl ?_
 refine yN ?_
 dsimp only [St.put]
 refine K1 _ ?_
 refine yS fun _ K2 => ?_
 refine yR ?_
 refine yF rfl rfl rfl rfl ?_
 refine yL rfl rfl rfl ?_
 refine yA rfl rfl ?_
 refine yN ?_
 dsimp only [St.put]
 refine K2 _ ?_
 refine ar ?_
 refine ba rfl (by constructor) zN zS ?_
 rfl
def sRd (b : Bool) : FuncId := bif b then 160 else 157
def sFt (b : Bool) : FuncId := bif b then 161 else 158
def sFd (b : Bool) : FuncId := bif b then 162 else 159
instance (b : Bool) : Fun Tryz.prog (sRd b) := by
 cases b
 ·exact inferInstanceAs (Fun Tryz.prog 157)
 exact inferInstanceAs (Fun Tryz.prog 160)
instance (b : Bool) : Fun Tryz.prog (sFt b) := by
 cases b
 ·exact inferInstanceAs (Fun Tryz.prog 158)
 exact inferInstanceAs (Fun Tryz.prog 161)
instance (b : Bool) : Fun Tryz.prog (sFd b) := by
 cases b
 ·exact inferInstanceAs (Fun Tryz.prog 159)
 exact inferInstanceAs (Fun Tryz.prog 162)
theorem oz (b : Bool) (p : af) : Pure Tryz.prog (sRd b) [val p] (lst (dj p b)) := by
 cases b
 ·exact uin p
 exact uik p
theorem ya (b : Bool) (x : aq) : Pure Tryz.prog (sFt b) [val x] (.v (.int .i64 (dv b x))) := by
 cases b
 ·exact uim x
 exact uij x
theorem ubn (b : Bool) (x : aq) : Pure Tryz.prog (sFd b) [val x] (lst (da b x)) := by
 cases b
 ·exact uil x
 exact uii x
abbrev nt (b : Bool) : List C := [.fn (.func (sRd b)) [], .fn (.func (sFt b)) [], .fn (.func (sFd b)) []]
abbrev sidL : List C := nt false ++ nt true
abbrev er : GObj := .fact (.pointer (some ⟨0, 0, none⟩)) (.elem sidL)
abbrev j5 (p : af) : List C := [lst p.text, lst p.firsts, lst p.seconds, lst p.pages, lst (p.pages.map fun x => (ei p.text x : Int)), lst (p.pages.map (dh p.text)), lst (p.pages.map (dw p.text))]
theorem vf : ∀ {k : Nat}, k < 2 → (sidL.drop (k * 3)).take 3 = nt (decide (k = 1))
 | 0, _ => rfl
 | 1, _ => rfl
 | k + 2, h => by omega
set_option maxHeartbeats 1000000 in
theorem ucb (p : af) (b : Bool) (i : Nat) (h : dz p) (hi : i < (dj p b).length) : Pure Tryz.prog 77 [.elem (j5 p), .agg (nt b), .v (.int .i64 (i : Int))] (.tup [.v (.int .i64 (jn p b i)), .v (.int .i64 (k8 p b i))]) := by
 refine co Tryz.func77 rfl (fun m => .tup (bz .v (bz .v c5))) fun G nx => ?_
 simp only [Tryz.ntmps77, List.length_cons, List.length_nil, Nat.reduceAdd, Nat.reduceSub]
 refine bq fun hlt => ?_
 dsimp only at hlt
 have hown := yo h b (i : Int)
 have hrd := yh h b (i : Int)
 have hal := lh h.text
 have hnp := h.np
 have hmb := y5 h b i
 obtain ⟨r, hr⟩ : ∃ r, (dj p b)[i]? = some r := cw hi
 have hmr := uc9 hr
 refine yS fun _ K1 => ?_
 refine yR ?_
 try dsimp only [St.put]
 refine yB rfl rfl rfl ?_
 refine yA rfl rfl ?_
 refine yA rfl rfl ?_
 refine yN ?_
 dsimp only [St.put]
 refine K1 _ ?_
 refine yS fun _ K2 => ?_
 refine yR ?_
 refine yA rfl rfl ?_
 refine yA rfl rfl ?_
 refine yN ?_
 dsimp only [St.put]
 refine K2 _ ?_
 refine yS fun _ K3 => ?_
 refine yS fun _ K4 => ?_
 refine yR ?_
 refine yM rfl rfl ?_
 refine aa rfl (ku rfl rfl) ?_
 refine yF rfl rfl rfl rfl ?_
 refine yF rfl rfl rfl rfl ?_
 refine yL rfl rfl rfl ?_
 refine aa rfl (bd rfl rfl (List.length_map _)) ?_
 refine yM rfl rfl ?_
 refine yN ?_
 dsimp only [St.put]
 refine K4 _ ?_
 refine az ?_
 refine cb 20 ?_
 refine zQ ?_
 refine ct (G) zX ?_
 dsimp only
 refine cr (X := Nat) (fun k => k ≤ p.pages.length) (fun k => p.pages.length - k) (fun k => [(8, .v (.int .i64 ((cc (p.pages.take k) (c4 b (i : Int)) : Nat) : Int))), (9, .v (.int .i64 ((cc (p.pages.take k) (dm p.text b (i : Int)) : Nat) : Int))), (10, .any), (11, .any), (19, .v (.int .i64 (k : Int)))]) (fun k G' => G') 0 rfl ?_ ?_ (fun _ _ h => h) ?_ ?_ ?_
 ·exact Nat.zero_le _
 ·exact zF
 ·rintro k hI
  exact zL
 ·exact fun _ _ _ _ h => .inl h
 rintro k hI
 dsimp only at hI ⊢
 refine yS fun _ K5 => ?_
 refine yR ?_
 refine aa rfl (ca rfl rfl rfl) ?_
 refine yN ?_
 dsimp only [St.put]
 refine K5 _ ?_
 refine yS fun _ K6 => ?_
 refine am rfl (fun hc => ?_) (fun hc => ?_)
 ·replace hc := of_decide_eq_true hc
  obtain ⟨x, hx⟩ : ∃ x, p.pages[k]? = some x := cw (by omega)
  have hax : (p.pages.map (dh p.text))[k]? = some (dh p.text x) := by rw [List.getElem?_map, hx]; rfl
  have hp := pageB_true.1 (h.page k x hx)
  have hfd : (da b x).length ≤ 600 := by
   have hfl := lu hp.found
   have hwl := lu hp.well
   cases b
   ·show x.found.length ≤ 600
    omega
   show x.well.length ≤ 600
   omega
  have hgl := rp p.text x
  have ht1 := u6 (l := p.pages) (g := c4 b (i : Int)) k
  have ht2 := u6 (l := p.pages) (g := dm p.text b (i : Int)) k
  refine av ?_
  refine K6 _ ?_
  refine yS fun _ K7 => ?_
  refine az ?_
  refine yS fun _ K8 => ?_
  refine yR ?_
  refine yM rfl rfl ?_
  refine aa rfl (bj rfl rfl rfl rfl (bi (by assumption)) (Enc.len _)) ?_
  refine yE rfl rfl rfl ?_
  try dsimp only [St.put]
  refine ae rfl (dx rfl ?_)
  refine yA rfl rfl ?_
  try dsimp only [St.put]
  refine ae rfl (c6 rfl rfl rfl zG rfl rfl (by rfl) ?_)
  refine yN ?_
  dsimp only [St.put]
  refine K8 _ ?_
  refine gg (i := 11) rfl zG zC ?_
  dsimp only
  refine yS fun _ K9 => ?_
  refine yR ?_
  refine yF rfl rfl rfl rfl ?_
  refine yL rfl rfl rfl ?_
  refine yE rfl rfl rfl ?_
  try dsimp only [St.put]
  refine ae rfl (ay rfl rfl rfl (ya b x) ?_)
  refine yM rfl rfl ?_
  refine aa rfl (ff rfl rfl rfl) ?_
  refine yN ?_
  dsimp only [St.put]
  refine K9 _ ?_
  refine am rfl (fun hc => ?_) (fun hc => ?_)
  ·have hyes : dv b x = (i : Int) := of_decide_eq_true hc
   refine yS fun _ K10 => ?_
   refine yR ?_
   refine yM rfl rfl ?_
   refine yF rfl rfl rfl rfl ?_
   refine yL rfl rfl rfl ?_
   refine yE rfl rfl rfl ?_
   try dsimp only [St.put]
   refine ae rfl (ay rfl rfl rfl (ubn b x) ?_)
   refine aa rfl (bd rfl rfl (List.length_map _)) ?_
   refine aa rfl (bl rfl rfl rfl (by omega)) ?_
   refine yA rfl rfl ?_
   refine yN ?_
   dsimp only [St.put]
   refine K10 _ ?_
   refine yR ?_
   refine yM rfl rfl ?_
   refine yM rfl rfl ?_
   refine aa rfl (ku rfl rfl) ?_
   refine yF rfl rfl rfl rfl ?_
   refine yL rfl rfl rfl ?_
   refine yM rfl rfl ?_
   refine aa rfl (bj rfl rfl rfl rfl (bi (by assumption)) (Enc.len _)) ?_
   refine yL rfl rfl rfl ?_
   refine aa rfl (bd rfl rfl (List.length_map _)) ?_
   refine aa rfl (bl rfl rfl rfl (by omega)) ?_
   refine yA rfl rfl ?_
   refine yN ?_
   dsimp only [St.put]
   refine K7 _ ?_
   refine yR ?_
   refine aa rfl (bl rfl rfl rfl (by omega)) ?_
   refine yM rfl rfl ?_
   refine yN ?_
   dsimp only [St.put]
   have e1 := l4 (g := c4 b (i : Int)) hx
   have e2 := l4 (g := dm p.text b (i : Int)) hx
   first
   | (have z : dv b x = (i : Int) := hyes
      rw [show ((cc (p.pages.take k) (c4 b (i : Int)) : Nat) : Int) + ((da b x).length : Int) = ((cc (p.pages.take (k + 1)) (c4 b (i : Int)) : Nat) : Int) by rw [e1]; unfold c4; rw [decide_eq_true z, cond_true]; rfl, show ((cc (p.pages.take k) (dm p.text b (i : Int)) : Nat) : Int) + ((dh p.text x).length : Int) = ((cc (p.pages.take (k + 1)) (dm p.text b (i : Int)) : Nat) : Int) by rw [e2]; unfold dm; rw [decide_eq_true z, cond_true]; rfl]
      exact ⟨k + 1, by omega, by omega, ⟨⟨rfl, rfl⟩, zF, zB, zN, zX⟩⟩)
   | (have z : ¬ dv b x = (i : Int) := hno
      rw [show cc (p.pages.take k) (c4 b (i : Int)) = cc (p.pages.take (k + 1)) (c4 b (i : Int)) by rw [e1]; unfold c4; rw [decide_eq_false z]; rfl, show cc (p.pages.take k) (dm p.text b (i : Int)) = cc (p.pages.take (k + 1)) (dm p.text b (i : Int)) by rw [e2]; unfold dm; rw [decide_eq_false z]; rfl]
      exact ⟨k + 1, by omega, by omega, ⟨⟨rfl, rfl⟩, zF, zB, zN, zX⟩⟩)
  have hno : ¬ dv b x = (i : Int) := of_decide_eq_false hc
  refine av ?_
  refine K7 _ ?_
  refine yR ?_
  refine aa rfl (bl rfl rfl rfl (by omega)) ?_
  refine yM rfl rfl ?_
  refine yN ?_
  dsimp only [St.put]
  have e1 := l4 (g := c4 b (i : Int)) hx
  have e2 := l4 (g := dm p.text b (i : Int)) hx
  first
  | (have z : dv b x = (i : Int) := hyes
     rw [show ((cc (p.pages.take k) (c4 b (i : Int)) : Nat) : Int) + ((da b x).length : Int) = ((cc (p.pages.take (k + 1)) (c4 b (i : Int)) : Nat) : Int) by rw [e1]; unfold c4; rw [decide_eq_true z, cond_true]; rfl, show ((cc (p.pages.take k) (dm p.text b (i : Int)) : Nat) : Int) + ((dh p.text x).length : Int) = ((cc (p.pages.take (k + 1)) (dm p.text b (i : Int)) : Nat) : Int) by rw [e2]; unfold dm; rw [decide_eq_true z, cond_true]; rfl]
     exact ⟨k + 1, by omega, by omega, ⟨⟨rfl, rfl⟩, zF, zB, zN, zX⟩⟩)
  | (have z : ¬ dv b x = (i : Int) := hno
     rw [show cc (p.pages.take k) (c4 b (i : Int)) = cc (p.pages.take (k + 1)) (c4 b (i : Int)) by rw [e1]; unfold c4; rw [decide_eq_false z]; rfl, show cc (p.pages.take k) (dm p.text b (i : Int)) = cc (p.pages.take (k + 1)) (dm p.text b (i : Int)) by rw [e2]; unfold dm; rw [decide_eq_false z]; rfl]
     exact ⟨k + 1, by omega, by omega, ⟨⟨rfl, rfl⟩, zF, zB, zN, zX⟩⟩)
 replace hc := of_decide_eq_false hc
 obtain rfl : k = p.pages.length := by omega
 rw [f5 (Nat.le_refl p.pages.length)]
 refine cn ?_
 refine K3 _ ?_
 refine yS fun _ K11 => ?_
 refine fk [(0, none), (1, none), (2, none), (3, none), (4, none), (5, none), (6, none), (7, none), (9, none), (8, none), (10, none), (11, none), (12, none), (13, none), (14, none), (15, none)] (fun i => [8, 12].contains i) (fun i => [8, 12].contains i) (fun i => [0, 1, 2, 4, 5, 6, 9, 10, 11, 13, 14, 15].contains i) [] (by kernel_rfl) (by kernel_rfl) ?_
 refine xM rfl rfl rfl rfl rfl ?_
 refine ah rfl rfl rfl rfl (tj rfl rfl rfl (by omega)) ?_
 refine ah rfl rfl rfl rfl (ce rfl rfl rfl) ?_
 try dsimp only [St.put]
 refine ax rfl rfl rfl rfl (bv rfl rfl) ?_
 refine xM rfl rfl rfl rfl rfl ?_
 refine ah rfl rfl rfl rfl (ku rfl rfl) ?_
 refine ah rfl rfl rfl rfl (ce rfl rfl rfl) ?_
 try dsimp only [St.put]
 refine ax rfl rfl rfl rfl (c := val p) (i4 (cs := j5 p) rfl rfl (show 4 ≤ 7 by decide)) ?_
 refine xM rfl rfl rfl rfl rfl ?_
 refine gw ?_
 try dsimp only [St.put]
 refine gr rfl rfl rfl rfl (ay rfl rfl rfl (oz b p) ?_)
 try dsimp only [St.put]
 refine dd rfl rfl rfl rfl (bj rfl rfl rfl rfl (bi (by assumption)) (Enc.len _)) ?_
 refine dd rfl rfl rfl rfl (ce rfl rfl rfl) ?_
 try dsimp only [St.put]
 refine gr rfl rfl rfl rfl (SStep.e' (D := fun _ => True) (bv rfl rfl) ?_)
 refine dd rfl rfl rfl rfl (fq rfl rfl rfl (by omega)) ?_
 refine dd rfl rfl rfl rfl (ti rfl rfl rfl (by omega) (by omega)) ?_
 refine dd rfl rfl rfl rfl (et rfl (by constructor)) ?_
 refine gl ?_
 dsimp only [St.put]
 rw [show (100 * ((cc p.pages (c4 b (i : Int)) : Nat) : Int)) / (100 - r.miss) = jn p b i by unfold jn; rw [hmr]]
 have hbd := xb h b i
 refine K11 _ ?_
 refine yS fun _ K12 => ?_
 refine yR ?_
 refine yM rfl rfl ?_
 refine yM rfl rfl ?_
 refine yM rfl rfl ?_
 refine aa rfl (fq rfl rfl rfl (by omega)) ?_
 refine yA rfl rfl ?_
 refine yA rfl rfl ?_
 refine yN ?_
 dsimp only [St.put]
 refine K12 _ ?_
 refine ar ?_
 refine jl rfl (by constructor) (by constructor) zN zS ?_ ?_
 ·rfl
 exact vi (by unfold k8; rfl)
end Go.Proofs.YtbbdginipiljdaaGreatDoor
namespace Go.AB
open Go Go.RowKit
open Go.AB.Enc (cells)
open Go.PB (aw ai PlaceD bc bg bf bp aq af ci bn cx cz)
theorem ujj {p : af} (h : dz p) {j : Nat} {x : aq} (hx : p.pages[j]? = some x) {k : Nat} (hk : k < (di p x).length) : ∃ zn : Nat, (di p x)[k]? = some (zn : Int) ∧ zn ≤ 6 := by
 have hp := pageB_true.1 (h.page j x hx)
 have h1 := hp.fst
 have h2 := hp.snd
 have h3 := h.nf
 have h4 := h.ns
 obtain ⟨z, hz⟩ : ∃ z, (di p x)[k]? = some z := ⟨_, List.getElem?_eq_getElem hk⟩
 have hm := List.mem_of_getElem? hz
 have hb : 0 ≤ z ∧ z ≤ 6 := by
  unfold di at hm
  rw [List.mem_append] at hm
  rcases hm with hm | hm
  ·by_cases q : 0 ≤ x.fst
   ·rw [decide_eq_true q, cond_true, List.mem_singleton] at hm; omega
   rw [decide_eq_false q] at hm; cases hm
  by_cases q : 0 ≤ x.snd
  ·rw [decide_eq_true q, cond_true, List.mem_singleton] at hm; omega
  rw [decide_eq_false q] at hm; cases hm
 exact ⟨z.toNat, by rw [hz]; congr 1; omega, by omega⟩
theorem yg (p : af) (x : aq) : (di p x).length ≤ 2 := by
 unfold di
 rw [List.length_append]
 cases decide (0 ≤ x.fst) <;> cases decide (0 ≤ x.snd) <;> simp
end Go.AB
namespace Go.Proofs.YtbbdginipiljdaaGreatDoor
set_option maxRecDepth 10000
open Go.RowKit Go.AB
open Go.AB.Enc (cells)
open Go.PB (aw ai PlaceD bc bg bf bp aq af ci bn cx cz)
end Go.Proofs.YtbbdginipiljdaaGreatDoor
namespace Go.Proofs.YtbbdginipiljdaaGreatDoor
set_option maxRecDepth 10000
open Go.RowKit Go.AB
open Go.AB.Enc (cells)
open Go.PB (aw ai PlaceD bc bg bf bp aq af ci bn cx cz)
end Go.Proofs.YtbbdginipiljdaaGreatDoor
namespace Go.AB
open Go Go.RowKit
open Go.AB.Enc (cells)
open Go.PB (aw ai PlaceD bc bg bf)
theorem lt3 {a b c a' b' c' : Int} : eu [a, b, c] [a', b', c'] < 0 ↔ a < a' ∨ a = a' ∧ (b < b' ∨ b = b' ∧ c < c') := by
 rw [ne (a := [a, b, c]) (b := [a', b', c']) rfl]; simp [ltW]
end Go.AB
namespace Go.Proofs.YtbbdginipiljdaaGreatDoor
set_option maxRecDepth 10000
open Go.RowKit Go.AB
open Go.AB.Enc (cells)
open Go.PB (aw ai PlaceD bc bg bf)
theorem ugh (a b : PlaceD) : Pure Tryz.prog 121 [val a, val b] (.v (.bool (decide (eu (cv a) (cv b) < 0)))) := by
 refine co Tryz.func121 rfl (fun m => .v) fun G nx => ?_
 simp only [Tryz.ntmps121, List.length_cons, List.length_nil, Nat.reduceAdd, Nat.reduceSub]
 refine bq fun hlt => ?_
 dsimp only at hlt
 refine yS fun _ K1 => ?_
 refine yR ?_
 try dsimp only [St.put]
 refine yB rfl rfl rfl ?_
 try dsimp only [St.put]
 refine yB rfl rfl rfl ?_
 refine yA rfl rfl ?_
 refine yN ?_
 dsimp only [St.put]
 refine K1 _ ?_
 refine yS fun _ K2 => ?_
 refine yS fun _ K3 => ?_
 refine yR ?_
 refine yF rfl rfl rfl rfl ?_
 refine yL rfl rfl rfl ?_
 refine yF rfl rfl rfl rfl ?_
 refine yL rfl rfl rfl ?_
 refine aa rfl (fb rfl rfl rfl) ?_
 refine yN ?_
 dsimp only [St.put]
 refine K3 _ ?_
 refine am rfl (fun hc => ?_) (fun hc => ?_)
 ·have h1 : a.ch ≠ b.ch := jj hc
  refine yS fun _ K4 => ?_
  refine yR ?_
  refine yF rfl rfl rfl rfl ?_
  refine yL rfl rfl rfl ?_
  refine yF rfl rfl rfl rfl ?_
  refine yL rfl rfl rfl ?_
  refine aa rfl (ca rfl rfl rfl) ?_
  refine yA rfl rfl ?_
  refine yN ?_
  dsimp only [St.put]
  refine K4 _ ?_
  refine ar ?_
  refine ba rfl (by constructor) zN zS ?_
  exact vb (by rw [decide_eq_decide, cv, cv, lt3]; omega)
 have h1 : a.ch = b.ch := g6 hc
 refine av ?_
 refine K2 _ ?_
 refine yS fun _ K5 => ?_
 refine yS fun _ K6 => ?_
 refine yR ?_
 refine yF rfl rfl rfl rfl ?_
 refine yL rfl rfl rfl ?_
 refine yF rfl rfl rfl rfl ?_
 refine yL rfl rfl rfl ?_
 refine aa rfl (fb rfl rfl rfl) ?_
 refine yN ?_
 dsimp only [St.put]
 refine K6 _ ?_
 refine am rfl (fun hc => ?_) (fun hc => ?_)
 ·have h2 : a.ln ≠ b.ln := jj hc
  refine yS fun _ K7 => ?_
  refine yR ?_
  refine yF rfl rfl rfl rfl ?_
  refine yL rfl rfl rfl ?_
  refine yF rfl rfl rfl rfl ?_
  refine yL rfl rfl rfl ?_
  refine aa rfl (ca rfl rfl rfl) ?_
  refine yA rfl rfl ?_
  refine yN ?_
  dsimp only [St.put]
  refine K7 _ ?_
  refine ar ?_
  refine ba rfl (by constructor) zN zS ?_
  exact vb (by rw [decide_eq_decide, cv, cv, lt3]; omega)
 have h2 : a.ln = b.ln := g6 hc
 refine av ?_
 refine K5 _ ?_
 refine yS fun _ K8 => ?_
 refine yR ?_
 refine yF rfl rfl rfl rfl ?_
 refine yL rfl rfl rfl ?_
 refine yF rfl rfl rfl rfl ?_
 refine yL rfl rfl rfl ?_
 refine aa rfl (ca rfl rfl rfl) ?_
 refine yA rfl rfl ?_
 refine yN ?_
 dsimp only [St.put]
 refine K8 _ ?_
 refine ar ?_
 refine ba rfl (by constructor) zN zS ?_
 exact vb (by rw [decide_eq_decide, cv, cv, lt3]; omega)
end Go.Proofs.YtbbdginipiljdaaGreatDoor
namespace Go.Proofs.YtbbdginipiljdaaGreatDoor
set_option maxRecDepth 10000
open Go.RowKit Go.AB
open Go.AB.Enc (cells)
open Go.PB (aw ai PlaceD bc bg bf bp aq af ci bn cx cz)
set_option maxHeartbeats 1000000 in
theorem ub2 (t : ai) (x : aq) (r : Int) (l : List PlaceD) (ht : dg t = true) : Pure Tryz.prog 108 [g5 t, val x, .v (.int .i64 r), lst l] (.v (.bool (gy t x r l))) := by
 refine co Tryz.func108 rfl (fun m => .v) fun G nx => ?_
 simp only [Tryz.ntmps108, List.length_cons, List.length_nil, Nat.reduceAdd, Nat.reduceSub]
 refine bq fun hlt => ?_
 dsimp only at hlt
 refine kf 3 (fun hfl => ?_)
 have hl0 := (fit_lst.1 hfl).1
 refine yS fun _ K1 => ?_
 refine yR ?_
 try dsimp only [St.put]
 refine yB rfl rfl rfl ?_
 try dsimp only [St.put]
 refine yB rfl rfl rfl ?_
 refine yA rfl rfl ?_
 refine yN ?_
 dsimp only [St.put]
 refine K1 _ ?_
 refine yS fun _ K2 => ?_
 refine yS fun _ K3 => ?_
 refine yR ?_
 refine yM rfl rfl ?_
 refine aa rfl (ca rfl rfl rfl) ?_
 refine ed (fun hs => ?_) (fun hs => ?_)
 ·have s1 : r < 0 := of_decide_eq_true hs
  refine yM rfl rfl ?_
  refine yM rfl rfl ?_
  refine aa rfl (bd rfl rfl (List.length_map _)) ?_
  refine aa rfl (gp rfl rfl rfl) ?_
  refine aa rfl (bu rfl rfl (by constructor)) ?_
  refine yN ?_
  dsimp only [St.put]
  refine K3 _ ?_
  refine am rfl (fun hc => ?_) (fun hc => ?_)
  ·have s2 : 0 < l.length := by
    have := of_decide_eq_true hc
    omega
   refine yS fun _ K4 => ?_
   refine yR ?_
   refine yA rfl rfl ?_
   refine yN ?_
   dsimp only [St.put]
   refine K4 _ ?_
   refine ar ?_
   refine ba rfl (by constructor) zN zS ?_
   exact vb (by
    have e1 : ¬ 0 ≤ r := by omega
    have e2 : l ≠ [] := fun e => by rw [e] at s2; exact absurd s2 (by simp)
    simp [gy, e1, e2])
  have s3 : (decide (0 ≤ r) || decide (l = [])) = true := by
   first
   | (rw [decide_eq_true (show 0 ≤ r by omega)]; rfl)
   | (have := of_decide_eq_false hc
      have : l = [] := List.eq_nil_of_length_eq_zero (by omega)
      simp [this])
  refine av ?_
  refine K2 _ ?_
  refine yS fun _ K5 => ?_
  refine yS fun _ K6 => ?_
  refine yR ?_
  refine yA rfl rfl ?_
  refine yN ?_
  dsimp only [St.put]
  refine K6 _ ?_
  refine az ?_
  refine cb 10 ?_
  refine zQ ?_
  refine ct (G) zX ?_
  dsimp only
  refine cr (X := Nat) (fun i => i ≤ l.length ∧ dn t x l i = true) (fun i => l.length - i) (fun i => [(9, .v (.int .i64 (i : Int)))]) (fun i G' => G') 0 rfl ?_ ?_ (fun _ _ h => h) ?_ ?_ ?_
  ·exact ⟨Nat.zero_le _, rfl⟩
  ·exact zF
  ·rintro i hI
   exact zL
  ·exact fun _ _ _ _ h => .inl h
  rintro i hI
  dsimp only at hI ⊢
  refine yS fun _ K7 => ?_
  refine yS fun _ K8 => ?_
  refine yR ?_
  refine yM rfl rfl ?_
  refine yM rfl rfl ?_
  refine aa rfl (bd rfl rfl (List.length_map _)) ?_
  refine aa rfl (ca rfl rfl rfl) ?_
  refine yN ?_
  dsimp only [St.put]
  refine K8 _ ?_
  refine am rfl (fun hc => ?_) (fun hc => ?_)
  ·replace hc := of_decide_eq_true hc
   obtain ⟨q, hq⟩ : ∃ q, l[i]? = some q := cw (by omega)
   refine av ?_
   refine K7 _ ?_
   refine yS fun _ K9 => ?_
   refine az ?_
   refine cb 10 ?_
   refine zQ ?_
   refine j0 (X := Bool) (fun d => jc t x l i = !d) (fun d => [(60, .v (.bool d))]) (fun d G' => G') rfl ?_ (fun _ _ _ _ h => .inl h) ?_ ?_
   ·rintro d hI
    exact zL
   ·refine rx [(0, none), (1, none), (2, none), (3, none), (4, none)] (fun _ => false) (fun i => [1, 2, 3].contains i) 33 (rl [5, 33]) (by kernel_rfl) (by kernel_rfl) ?_
    try dsimp only [St.put]
    refine ax rfl rfl rfl rfl (d8 rfl rfl rfl) ?_
    refine xM rfl rfl rfl rfl rfl ?_
    refine xM rfl rfl rfl rfl rfl ?_
    try dsimp only [St.put]
    refine ah rfl rfl rfl rfl (bj rfl rfl rfl rfl (bi (by assumption)) (Enc.len _)) ?_
    try dsimp only [St.put]
    refine ax rfl rfl rfl rfl (d8 rfl rfl (Enc.len _)) ?_
    refine cg ?_
    refine du [5] (by kernel_rfl) (by simp) ?_
    refine dt ?_ ?_
    ·try dsimp only [St.put]
     refine iq rfl rfl rfl (ay rfl rfl rfl (ugd t q ht) ?_)
     refine ef [(6, none), (7, none), (8, none), (9, none), (10, none), (11, none), (12, none), (14, none), (15, none), (16, none), (17, none)] (fun i => [6, 7, 9, 10, 11, 14, 16].contains i) 21 (rl [13, 1, 4, 20]) (by kernel_rfl) ?_
     refine ah rfl rfl rfl rfl (dl rfl rfl) ?_
     refine i7 (fun hs => ?_) (fun hs => ?_)
     ·have s4 := hs
      refine xM rfl rfl rfl rfl rfl ?_
      refine aj rfl rfl rfl ?_
      refine aj rfl rfl rfl ?_
      refine aj rfl rfl rfl ?_
      refine aj rfl rfl rfl ?_
      refine aj rfl rfl rfl ?_
      refine aj rfl rfl rfl ?_
      refine aj rfl rfl rfl ?_
      refine aj rfl rfl rfl ?_
      refine aj rfl rfl rfl ?_
      refine cg ?_
      refine du [13] (by kernel_rfl) (by simp) ?_
      refine dt ?_ ?_
      ·refine f3 rfl rfl rfl ?_
       refine du [18] (by kernel_rfl) (by simp) ?_
       refine dt ?_ ?_
       ·refine f3 rfl rfl rfl ?_
        refine ef [(19, none), (20, none), (21, none), (22, none), (23, none), (24, none), (25, none), (26, none), (27, none), (28, none), (29, none), (30, none), (31, none), (32, none), (33, none)] (fun i => [19, 20, 21, 22, 23, 24, 25, 26, 27, 28, 30, 31, 32].contains i) 4 (rl [34, 4]) (by kernel_rfl) ?_
        refine aj rfl rfl rfl ?_
        refine ah rfl rfl rfl rfl (bu rfl rfl (by constructor)) ?_
        refine xM rfl rfl rfl rfl rfl ?_
        refine aj rfl rfl rfl ?_
        refine aj rfl rfl rfl ?_
        refine aj rfl rfl rfl ?_
        refine aj rfl rfl rfl ?_
        refine aj rfl rfl rfl ?_
        refine aj rfl rfl rfl ?_
        refine aj rfl rfl rfl ?_
        refine aj rfl rfl rfl ?_
        refine aj rfl rfl rfl ?_
        refine aj rfl rfl rfl ?_
        refine aj rfl rfl rfl ?_
        refine aj rfl rfl rfl ?_
        refine cg ?_
        refine du [34] (by kernel_rfl) (by simp) ?_
        refine dt ?_ ?_
        ·refine f3 rfl rfl rfl ?_
         refine ef [(35, none), (36, none), (37, none)] (fun i => [35, 36, 37].contains i) 0 (rl [38]) (by kernel_rfl) ?_
         refine aj rfl rfl rfl ?_
         refine aj rfl rfl rfl ?_
         refine ah rfl rfl rfl rfl (bu rfl rfl (by constructor)) ?_
         refine cg ?_
         dsimp only [St.put]
         refine il (by kernel_rfl) ?_
         refine ⟨_, ?_, ⟨⟨rfl, rfl⟩, zF, zB, zN, zX⟩⟩
         simp_all [jc, fe, mj]
         try (intro h0; omega)
        exact dr
       exact dr
      exact dr
     have hqp : fh t q = true := by simpa using hs
     refine xM rfl rfl rfl rfl rfl ?_
     try dsimp only [St.put]
     refine ax rfl rfl rfl rfl (d8 rfl rfl rfl) ?_
     refine xM rfl rfl rfl rfl rfl ?_
     refine xM rfl rfl rfl rfl rfl ?_
     try dsimp only [St.put]
     refine ah rfl rfl rfl rfl (bj rfl rfl rfl rfl (bi (by assumption)) (Enc.len _)) ?_
     try dsimp only [St.put]
     refine ax rfl rfl rfl rfl (d8 rfl rfl (Enc.len _)) ?_
     refine ah rfl rfl rfl rfl (ce rfl rfl rfl) ?_
     try dsimp only [St.put]
     refine ax rfl rfl rfl rfl (bv rfl rfl) ?_
     refine ah rfl rfl rfl rfl (ce rfl rfl rfl) ?_
     try dsimp only [St.put]
     refine ax rfl rfl rfl rfl (bv rfl rfl) ?_
     refine cg ?_
     refine du [13] (by kernel_rfl) (by simp) ?_
     refine dt ?_ ?_
     ·try dsimp only [St.put]
      refine iq rfl rfl rfl (ay rfl rfl rfl (yi t q ht hqp) ?_)
      refine du [18] (by kernel_rfl) (by simp) ?_
      refine dt ?_ ?_
      ·try dsimp only [St.put]
       refine iq rfl rfl rfl (ay rfl rfl rfl (o5 _ _ _) ?_)
       refine ef [(19, none), (20, none), (21, none), (22, none), (23, none), (24, none), (25, none), (26, none), (27, none), (28, none), (29, none), (30, none), (31, none), (32, none), (33, none)] (fun i => [19, 20, 21, 22, 23, 24, 25, 26, 27, 28, 30, 31, 32].contains i) 4 (rl [34, 4]) (by kernel_rfl) ?_
       refine ah rfl rfl rfl rfl (dl rfl rfl) ?_
       refine i7 (fun hs => ?_) (fun hs => ?_)
       ·have s5 := hs
        refine ah rfl rfl rfl rfl (cd rfl rfl (by constructor)) ?_
        refine xM rfl rfl rfl rfl rfl ?_
        refine aj rfl rfl rfl ?_
        refine aj rfl rfl rfl ?_
        refine aj rfl rfl rfl ?_
        refine aj rfl rfl rfl ?_
        refine aj rfl rfl rfl ?_
        refine aj rfl rfl rfl ?_
        refine aj rfl rfl rfl ?_
        refine aj rfl rfl rfl ?_
        refine aj rfl rfl rfl ?_
        refine aj rfl rfl rfl ?_
        refine aj rfl rfl rfl ?_
        refine aj rfl rfl rfl ?_
        refine cg ?_
        refine du [34] (by kernel_rfl) (by simp) ?_
        refine dt ?_ ?_
        ·refine f3 rfl rfl rfl ?_
         refine ef [(35, none), (36, none), (37, none)] (fun i => [35, 36, 37].contains i) 0 (rl [38]) (by kernel_rfl) ?_
         refine aj rfl rfl rfl ?_
         refine aj rfl rfl rfl ?_
         refine ah rfl rfl rfl rfl (bu rfl rfl (by constructor)) ?_
         refine cg ?_
         dsimp only [St.put]
         refine il (by kernel_rfl) ?_
         refine ⟨_, ?_, ⟨⟨rfl, rfl⟩, zF, zB, zN, zX⟩⟩
         simp_all [jc, fe, mj]
         try (intro h0; omega)
        exact dr
       have s5 := hs
       refine ah rfl rfl rfl rfl (cd rfl rfl (by constructor)) ?_
       refine xM rfl rfl rfl rfl rfl ?_
       refine xM rfl rfl rfl rfl rfl ?_
       refine ah rfl rfl rfl rfl (gp rfl rfl rfl) ?_
       refine i7 (fun hs => ?_) (fun hs => ?_)
       ·have s6 : 0 < i := by
         have := of_decide_eq_true hs
         omega
        obtain ⟨q0, hq0⟩ : ∃ q0, l[i - 1]? = some q0 := cw (by omega)
        refine xM rfl rfl rfl rfl rfl ?_
        refine xM rfl rfl rfl rfl rfl ?_
        refine xM rfl rfl rfl rfl rfl ?_
        refine ah rfl rfl rfl rfl (fq rfl rfl rfl (by omega)) ?_
        try dsimp only [St.put]
        refine ah rfl rfl rfl rfl (bj (k := i - 1) rfl rfl rfl (by omega) (bi hq0) (Enc.len _)) ?_
        try dsimp only [St.put]
        refine ax rfl rfl rfl rfl (d8 rfl rfl (Enc.len _)) ?_
        refine xM rfl rfl rfl rfl rfl ?_
        refine xM rfl rfl rfl rfl rfl ?_
        try dsimp only [St.put]
        refine ah rfl rfl rfl rfl (bj rfl rfl rfl rfl (bi (by assumption)) (Enc.len _)) ?_
        try dsimp only [St.put]
        refine ax rfl rfl rfl rfl (d8 rfl rfl (Enc.len _)) ?_
        refine cg ?_
        refine du [34] (by kernel_rfl) (by simp) ?_
        refine dt ?_ ?_
        ·try dsimp only [St.put]
         refine iq rfl rfl rfl (ay rfl rfl rfl (ugh q0 q) ?_)
         refine ef [(35, none), (36, none), (37, none)] (fun i => [35, 36, 37].contains i) 0 (rl [38]) (by kernel_rfl) ?_
         refine ah rfl rfl rfl rfl (dl rfl rfl) ?_
         refine ah rfl rfl rfl rfl (bu rfl rfl (by constructor)) ?_
         refine ah rfl rfl rfl rfl (cd rfl rfl (by constructor)) ?_
         refine cg ?_
         dsimp only [St.put]
         refine il (by kernel_rfl) ?_
         refine ⟨_, ?_, ⟨⟨rfl, rfl⟩, zF, zB, zN, zX⟩⟩
         simp_all [jc, fe, mj]
         try (intro h0; omega)
        exact dr
       have s6 : i = 0 := by
        have := of_decide_eq_false hs
        omega
       refine xM rfl rfl rfl rfl rfl ?_
       refine aj rfl rfl rfl ?_
       refine aj rfl rfl rfl ?_
       refine aj rfl rfl rfl ?_
       refine aj rfl rfl rfl ?_
       refine aj rfl rfl rfl ?_
       refine aj rfl rfl rfl ?_
       refine aj rfl rfl rfl ?_
       refine aj rfl rfl rfl ?_
       refine aj rfl rfl rfl ?_
       refine cg ?_
       refine du [34] (by kernel_rfl) (by simp) ?_
       refine dt ?_ ?_
       ·refine f3 rfl rfl rfl ?_
        refine ef [(35, none), (36, none), (37, none)] (fun i => [35, 36, 37].contains i) 0 (rl [38]) (by kernel_rfl) ?_
        refine aj rfl rfl rfl ?_
        refine ah rfl rfl rfl rfl (cd rfl rfl (by constructor)) ?_
        refine ah rfl rfl rfl rfl (cd rfl rfl (by constructor)) ?_
        refine cg ?_
        dsimp only [St.put]
        refine il (by kernel_rfl) ?_
        refine ⟨_, ?_, ⟨⟨rfl, rfl⟩, zF, zB, zN, zX⟩⟩
        simp_all [jc, fe, mj]
        try (intro h0; omega)
       exact dr
      exact dr
     exact dr
    exact dr
   rintro d hst
   dsimp only at hst ⊢
   refine am rfl (fun hc => ?_) (fun hc => ?_)
   ·skip
    refine yS fun _ K11 => ?_
    refine yR ?_
    refine yA rfl rfl ?_
    refine yN ?_
    dsimp only [St.put]
    refine K11 _ ?_
    refine ar ?_
    refine ba rfl (by constructor) zN zS ?_
    exact vb (by
     have e : jc t x l i = false := by rw [hst, hc]; rfl
     have : dn t x l l.length = false := by
      refine List.all_eq_false.2 ⟨i, List.mem_range.2 (by omega), by rw [e]; simp⟩
     simp [gy, this])
   skip
   refine av ?_
   refine K9 _ ?_
   refine yR ?_
   refine yM rfl rfl ?_
   refine aa rfl (bl rfl rfl rfl (by omega)) ?_
   refine yA rfl rfl ?_
   refine yN ?_
   dsimp only [St.put]
   exact ⟨i + 1, by omega, ⟨by omega, by rw [gq, hI.2, hst, hc]; rfl⟩, ⟨⟨rfl, rfl⟩, zF, zB, zN, zX⟩⟩
  replace hc := of_decide_eq_false hc
  obtain rfl : i = l.length := by omega
  refine cn ?_
  refine K5 _ ?_
  refine yS fun _ K12 => ?_
  refine yR ?_
  refine yA rfl rfl ?_
  refine yN ?_
  dsimp only [St.put]
  refine K12 _ ?_
  refine ar ?_
  refine ba rfl (by constructor) zN zS ?_
  exact vb (by
   unfold gy
   rw [hI.2, Bool.and_true]
   first
   | exact s3.symm
   | (have e1 : 0 ≤ r := by omega
      simp [e1]))
 have s1 : ¬ r < 0 := of_decide_eq_false hs
 refine yM rfl rfl ?_
 refine yK rfl ?_
 refine yK rfl ?_
 refine yK rfl ?_
 refine aa rfl (cd rfl rfl (by constructor)) ?_
 refine yN ?_
 dsimp only [St.put]
 refine K3 _ ?_
 refine am rfl (fun h => by cases h) (fun _ => ?_)
 have s3 : (decide (0 ≤ r) || decide (l = [])) = true := by
  first
  | (rw [decide_eq_true (show 0 ≤ r by omega)]; rfl)
  | (have := of_decide_eq_false hc
     have : l = [] := List.eq_nil_of_length_eq_zero (by omega)
     simp [this])
 refine av ?_
 refine K2 _ ?_
 refine yS fun _ K13 => ?_
 refine yS fun _ K14 => ?_
 refine yR ?_
 refine yA rfl rfl ?_
 refine yN ?_
 dsimp only [St.put]
 refine K14 _ ?_
 refine az ?_
 refine cb 10 ?_
 refine zQ ?_
 refine ct (G) zX ?_
 dsimp only
 refine cr (X := Nat) (fun i => i ≤ l.length ∧ dn t x l i = true) (fun i => l.length - i) (fun i => [(9, .v (.int .i64 (i : Int)))]) (fun i G' => G') 0 rfl ?_ ?_ (fun _ _ h => h) ?_ ?_ ?_
 ·exact ⟨Nat.zero_le _, rfl⟩
 ·exact zF
 ·rintro i hI
  exact zL
 ·exact fun _ _ _ _ h => .inl h
 rintro i hI
 dsimp only at hI ⊢
 refine yS fun _ K15 => ?_
 refine yS fun _ K16 => ?_
 refine yR ?_
 refine yM rfl rfl ?_
 refine yM rfl rfl ?_
 refine aa rfl (bd rfl rfl (List.length_map _)) ?_
 refine aa rfl (ca rfl rfl rfl) ?_
 refine yN ?_
 dsimp only [St.put]
 refine K16 _ ?_
 refine am rfl (fun hc => ?_) (fun hc => ?_)
 ·replace hc := of_decide_eq_true hc
  obtain ⟨q, hq⟩ : ∃ q, l[i]? = some q := cw (by omega)
  refine av ?_
  refine K15 _ ?_
  refine yS fun _ K17 => ?_
  refine az ?_
  refine cb 10 ?_
  refine zQ ?_
  refine j0 (X := Bool) (fun d => jc t x l i = !d) (fun d => [(60, .v (.bool d))]) (fun d G' => G') rfl ?_ (fun _ _ _ _ h => .inl h) ?_ ?_
  ·rintro d hI
   exact zL
  ·refine rx [(0, none), (1, none), (2, none), (3, none), (4, none)] (fun _ => false) (fun i => [1, 2, 3].contains i) 33 (rl [5, 33]) (by kernel_rfl) (by kernel_rfl) ?_
   try dsimp only [St.put]
   refine ax rfl rfl rfl rfl (d8 rfl rfl rfl) ?_
   refine xM rfl rfl rfl rfl rfl ?_
   refine xM rfl rfl rfl rfl rfl ?_
   try dsimp only [St.put]
   refine ah rfl rfl rfl rfl (bj rfl rfl rfl rfl (bi (by assumption)) (Enc.len _)) ?_
   try dsimp only [St.put]
   refine ax rfl rfl rfl rfl (d8 rfl rfl (Enc.len _)) ?_
   refine cg ?_
   refine du [5] (by kernel_rfl) (by simp) ?_
   refine dt ?_ ?_
   ·try dsimp only [St.put]
    refine iq rfl rfl rfl (ay rfl rfl rfl (ugd t q ht) ?_)
    refine ef [(6, none), (7, none), (8, none), (9, none), (10, none), (11, none), (12, none), (14, none), (15, none), (16, none), (17, none)] (fun i => [6, 7, 9, 10, 11, 14, 16].contains i) 21 (rl [13, 1, 4, 20]) (by kernel_rfl) ?_
    refine ah rfl rfl rfl rfl (dl rfl rfl) ?_
    refine i7 (fun hs => ?_) (fun hs => ?_)
    ·have s4 := hs
     refine xM rfl rfl rfl rfl rfl ?_
     refine aj rfl rfl rfl ?_
     refine aj rfl rfl rfl ?_
     refine aj rfl rfl rfl ?_
     refine aj rfl rfl rfl ?_
     refine aj rfl rfl rfl ?_
     refine aj rfl rfl rfl ?_
     refine aj rfl rfl rfl ?_
     refine aj rfl rfl rfl ?_
     refine aj rfl rfl rfl ?_
     refine cg ?_
     refine du [13] (by kernel_rfl) (by simp) ?_
     refine dt ?_ ?_
     ·refine f3 rfl rfl rfl ?_
      refine du [18] (by kernel_rfl) (by simp) ?_
      refine dt ?_ ?_
      ·refine f3 rfl rfl rfl ?_
       refine ef [(19, none), (20, none), (21, none), (22, none), (23, none), (24, none), (25, none), (26, none), (27, none), (28, none), (29, none), (30, none), (31, none), (32, none), (33, none)] (fun i => [19, 20, 21, 22, 23, 24, 25, 26, 27, 28, 30, 31, 32].contains i) 4 (rl [34, 4]) (by kernel_rfl) ?_
       refine aj rfl rfl rfl ?_
       refine ah rfl rfl rfl rfl (bu rfl rfl (by constructor)) ?_
       refine xM rfl rfl rfl rfl rfl ?_
       refine aj rfl rfl rfl ?_
       refine aj rfl rfl rfl ?_
       refine aj rfl rfl rfl ?_
       refine aj rfl rfl rfl ?_
       refine aj rfl rfl rfl ?_
       refine aj rfl rfl rfl ?_
       refine aj rfl rfl rfl ?_
       refine aj rfl rfl rfl ?_
       refine aj rfl rfl rfl ?_
       refine aj rfl rfl rfl ?_
       refine aj rfl rfl rfl ?_
       refine aj rfl rfl rfl ?_
       refine cg ?_
       refine du [34] (by kernel_rfl) (by simp) ?_
       refine dt ?_ ?_
       ·refine f3 rfl rfl rfl ?_
        refine ef [(35, none), (36, none), (37, none)] (fun i => [35, 36, 37].contains i) 0 (rl [38]) (by kernel_rfl) ?_
        refine aj rfl rfl rfl ?_
        refine aj rfl rfl rfl ?_
        refine ah rfl rfl rfl rfl (bu rfl rfl (by constructor)) ?_
        refine cg ?_
        dsimp only [St.put]
        refine il (by kernel_rfl) ?_
        refine ⟨_, ?_, ⟨⟨rfl, rfl⟩, zF, zB, zN, zX⟩⟩
        simp_all [jc, fe, mj]
        try (intro h0; omega)
       exact dr
      exact dr
     exact dr
    have hqp : fh t q = true := by simpa using hs
    refine xM rfl rfl rfl rfl rfl ?_
    try dsimp only [St.put]
    refine ax rfl rfl rfl rfl (d8 rfl rfl rfl) ?_
    refine xM rfl rfl rfl rfl rfl ?_
    refine xM rfl rfl rfl rfl rfl ?_
    try dsimp only [St.put]
    refine ah rfl rfl rfl rfl (bj rfl rfl rfl rfl (bi (by assumption)) (Enc.len _)) ?_
    try dsimp only [St.put]
    refine ax rfl rfl rfl rfl (d8 rfl rfl (Enc.len _)) ?_
    refine ah rfl rfl rfl rfl (ce rfl rfl rfl) ?_
    try dsimp only [St.put]
    refine ax rfl rfl rfl rfl (bv rfl rfl) ?_
    refine ah rfl rfl rfl rfl (ce rfl rfl rfl) ?_
    try dsimp only [St.put]
    refine ax rfl rfl rfl rfl (bv rfl rfl) ?_
    refine cg ?_
    refine du [13] (by kernel_rfl) (by simp) ?_
    refine dt ?_ ?_
    ·try dsimp only [St.put]
     refine iq rfl rfl rfl (ay rfl rfl rfl (yi t q ht hqp) ?_)
     refine du [18] (by kernel_rfl) (by simp) ?_
     refine dt ?_ ?_
     ·try dsimp only [St.put]
      refine iq rfl rfl rfl (ay rfl rfl rfl (o5 _ _ _) ?_)
      refine ef [(19, none), (20, none), (21, none), (22, none), (23, none), (24, none), (25, none), (26, none), (27, none), (28, none), (29, none), (30, none), (31, none), (32, none), (33, none)] (fun i => [19, 20, 21, 22, 23, 24, 25, 26, 27, 28, 30, 31, 32].contains i) 4 (rl [34, 4]) (by kernel_rfl) ?_
      refine ah rfl rfl rfl rfl (dl rfl rfl) ?_
      refine i7 (fun hs => ?_) (fun hs => ?_)
      ·have s5 := hs
       refine ah rfl rfl rfl rfl (cd rfl rfl (by constructor)) ?_
       refine xM rfl rfl rfl rfl rfl ?_
       refine aj rfl rfl rfl ?_
       refine aj rfl rfl rfl ?_
       refine aj rfl rfl rfl ?_
       refine aj rfl rfl rfl ?_
       refine aj rfl rfl rfl ?_
       refine aj rfl rfl rfl ?_
       refine aj rfl rfl rfl ?_
       refine aj rfl rfl rfl ?_
       refine aj rfl rfl rfl ?_
       refine aj rfl rfl rfl ?_
       refine aj rfl rfl rfl ?_
       refine aj rfl rfl rfl ?_
       refine cg ?_
       refine du [34] (by kernel_rfl) (by simp) ?_
       refine dt ?_ ?_
       ·refine f3 rfl rfl rfl ?_
        refine ef [(35, none), (36, none), (37, none)] (fun i => [35, 36, 37].contains i) 0 (rl [38]) (by kernel_rfl) ?_
        refine aj rfl rfl rfl ?_
        refine aj rfl rfl rfl ?_
        refine ah rfl rfl rfl rfl (bu rfl rfl (by constructor)) ?_
        refine cg ?_
        dsimp only [St.put]
        refine il (by kernel_rfl) ?_
        refine ⟨_, ?_, ⟨⟨rfl, rfl⟩, zF, zB, zN, zX⟩⟩
        simp_all [jc, fe, mj]
        try (intro h0; omega)
       exact dr
      have s5 := hs
      refine ah rfl rfl rfl rfl (cd rfl rfl (by constructor)) ?_
      refine xM rfl rfl rfl rfl rfl ?_
      refine xM rfl rfl rfl rfl rfl ?_
      refine ah rfl rfl rfl rfl (gp rfl rfl rfl) ?_
      refine i7 (fun hs => ?_) (fun hs => ?_)
      ·have s6 : 0 < i := by
        have := of_decide_eq_true hs
        omega
       obtain ⟨q0, hq0⟩ : ∃ q0, l[i - 1]? = some q0 := cw (by omega)
       refine xM rfl rfl rfl rfl rfl ?_
       refine xM rfl rfl rfl rfl rfl ?_
       refine xM rfl rfl rfl rfl rfl ?_
       refine ah rfl rfl rfl rfl (fq rfl rfl rfl (by omega)) ?_
       try dsimp only [St.put]
       refine ah rfl rfl rfl rfl (bj (k := i - 1) rfl rfl rfl (by omega) (bi hq0) (Enc.len _)) ?_
       try dsimp only [St.put]
       refine ax rfl rfl rfl rfl (d8 rfl rfl (Enc.len _)) ?_
       refine xM rfl rfl rfl rfl rfl ?_
       refine xM rfl rfl rfl rfl rfl ?_
       try dsimp only [St.put]
       refine ah rfl rfl rfl rfl (bj rfl rfl rfl rfl (bi (by assumption)) (Enc.len _)) ?_
       try dsimp only [St.put]
       refine ax rfl rfl rfl rfl (d8 rfl rfl (Enc.len _)) ?_
       refine cg ?_
       refine du [34] (by kernel_rfl) (by simp) ?_
       refine dt ?_ ?_
       ·try dsimp only [St.put]
        refine iq rfl rfl rfl (ay rfl rfl rfl (ugh q0 q) ?_)
        refine ef [(35, none), (36, none), (37, none)] (fun i => [35, 36, 37].contains i) 0 (rl [38]) (by kernel_rfl) ?_
        refine ah rfl rfl rfl rfl (dl rfl rfl) ?_
        refine ah rfl rfl rfl rfl (bu rfl rfl (by constructor)) ?_
        refine ah rfl rfl rfl rfl (cd rfl rfl (by constructor)) ?_
        refine cg ?_
        dsimp only [St.put]
        refine il (by kernel_rfl) ?_
        refine ⟨_, ?_, ⟨⟨rfl, rfl⟩, zF, zB, zN, zX⟩⟩
        simp_all [jc, fe, mj]
        try (intro h0; omega)
       exact dr
      have s6 : i = 0 := by
       have := of_decide_eq_false hs
       omega
      refine xM rfl rfl rfl rfl rfl ?_
      refine aj rfl rfl rfl ?_
      refine aj rfl rfl rfl ?_
      refine aj rfl rfl rfl ?_
      refine aj rfl rfl rfl ?_
      refine aj rfl rfl rfl ?_
      refine aj rfl rfl rfl ?_
      refine aj rfl rfl rfl ?_
      refine aj rfl rfl rfl ?_
      refine aj rfl rfl rfl ?_
      refine cg ?_
      refine du [34] (by kernel_rfl) (by simp) ?_
      refine dt ?_ ?_
      ·refine f3 rfl rfl rfl ?_
       refine ef [(35, none), (36, none), (37, none)] (fun i => [35, 36, 37].contains i) 0 (rl [38]) (by kernel_rfl) ?_
       refine aj rfl rfl rfl ?_
       refine ah rfl rfl rfl rfl (cd rfl rfl (by constructor)) ?_
       refine ah rfl rfl rfl rfl (cd rfl rfl (by constructor)) ?_
       refine cg ?_
       dsimp only [St.put]
       refine il (by kernel_rfl) ?_
       refine ⟨_, ?_, ⟨⟨rfl, rfl⟩, zF, zB, zN, zX⟩⟩
       simp_all [jc, fe, mj]
       try (intro h0; omega)
      exact dr
     exact dr
    exact dr
   exact dr
  rintro d hst
  dsimp only at hst ⊢
  refine am rfl (fun hc => ?_) (fun hc => ?_)
  ·skip
   refine yS fun _ K19 => ?_
   refine yR ?_
   refine yA rfl rfl ?_
   refine yN ?_
   dsimp only [St.put]
   refine K19 _ ?_
   refine ar ?_
   refine ba rfl (by constructor) zN zS ?_
   exact vb (by
    have e : jc t x l i = false := by rw [hst, hc]; rfl
    have : dn t x l l.length = false := by
     refine List.all_eq_false.2 ⟨i, List.mem_range.2 (by omega), by rw [e]; simp⟩
    simp [gy, this])
  skip
  refine av ?_
  refine K17 _ ?_
  refine yR ?_
  refine yM rfl rfl ?_
  refine aa rfl (bl rfl rfl rfl (by omega)) ?_
  refine yA rfl rfl ?_
  refine yN ?_
  dsimp only [St.put]
  exact ⟨i + 1, by omega, ⟨by omega, by rw [gq, hI.2, hst, hc]; rfl⟩, ⟨⟨rfl, rfl⟩, zF, zB, zN, zX⟩⟩
 replace hc := of_decide_eq_false hc
 obtain rfl : i = l.length := by omega
 refine cn ?_
 refine K13 _ ?_
 refine yS fun _ K20 => ?_
 refine yR ?_
 refine yA rfl rfl ?_
 refine yN ?_
 dsimp only [St.put]
 refine K20 _ ?_
 refine ar ?_
 refine ba rfl (by constructor) zN zS ?_
 exact vb (by
  unfold gy
  rw [hI.2, Bool.and_true]
  first
  | exact s3.symm
  | (have e1 : 0 ≤ r := by omega
     simp [e1]))
end Go.Proofs.YtbbdginipiljdaaGreatDoor
namespace Go.AB
open Go Go.RowKit
open Go.AB.Enc (cells)
open Go.PB (aw ai PlaceD bc bg bf bp aq af ci bn cx cz)
def ma (p : af) (last : Int) (x : aq) : Bool := decide (last < x.fr) && decide (x.fr ≤ x.to) && decide (x.to < (l9 p.text : Int)) && inB x.fst (-1) ((p.firsts.length : Int) - 1) && inB x.snd (-1) ((p.seconds.length : Int) - 1)
theorem vp (p : af) (last : Int) (x : aq) : lk p last x = (ma p last x && (gy p.text x x.fst x.found && gy p.text x x.snd x.well)) := by
 unfold lk ma
 cases decide (last < x.fr) <;> cases decide (x.fr ≤ x.to) <;> cases decide (x.to < (l9 p.text : Int)) <;> cases inB x.fst (-1) ((p.firsts.length : Int) - 1) <;> cases inB x.snd (-1) ((p.seconds.length : Int) - 1) <;> simp
theorem yj {p : af} {j : Nat} {x : aq} (h : p.pages[j]? = some x) : s7 p j = lk p (g8 p.pages j) x := by unfold s7; rw [h]
theorem udr {l : List aq} {j : Nat} {x : aq} (h : l[j]? = some x) : g8 l (j + 1) = x.to := by simp only [g8, h]
theorem vo {p : af} {j : Nat} {x : aq} (h : p.pages[j]? = some x) (hb : lk p (g8 p.pages j) x = false) : fy p = false := by
 have : px p p.pages.length = false := List.all_eq_false.2 ⟨j, List.mem_range.2 (List.getElem?_eq_some_iff.1 h).1, by rw [yj h, hb]; simp⟩
 simp [fy, this]
end Go.AB
namespace Go.Proofs.YtbbdginipiljdaaGreatDoor
set_option maxRecDepth 10000
open Go.RowKit Go.AB
open Go.AB.Enc (cells)
open Go.PB (aw ai PlaceD bc bg bf bp aq af ci bn cx cz)
set_option maxHeartbeats 2000000 in
theorem uju (p : af) (ht : dg p.text = true) : Pure Tryz.prog 87 [val p] (.v (.bool (fy p))) := by
 refine co Tryz.func87 rfl (fun m => .v) fun G nx => ?_
 simp only [Tryz.ntmps87, List.length_cons, List.length_nil, Nat.reduceAdd, Nat.reduceSub]
 refine bq fun hlt => ?_
 dsimp only at hlt
 refine yS fun _ K1 => ?_
 refine yR ?_
 try dsimp only [St.put]
 refine yB rfl rfl rfl ?_
 refine yA rfl rfl ?_
 refine yN ?_
 dsimp only [St.put]
 refine K1 _ ?_
 refine yS fun _ K2 => ?_
 refine yS fun _ K3 => ?_
 refine yR ?_
 refine yF rfl rfl rfl rfl ?_
 refine yL rfl rfl rfl ?_
 refine aa rfl (bd rfl rfl (List.length_map _)) ?_
 refine aa rfl (gp rfl rfl rfl) ?_
 refine ed (fun hs => ?_) (fun hs => ?_)
 ·have s1 : ¬ p.firsts.length ≤ 3 := by
   have := of_decide_eq_true hs
   omega
  refine yM rfl rfl ?_
  refine yK rfl ?_
  refine yK rfl ?_
  refine yK rfl ?_
  refine yK rfl ?_
  refine aa rfl (bu rfl rfl (by constructor)) ?_
  refine yM rfl rfl ?_
  refine yK rfl ?_
  refine yK rfl ?_
  refine yK rfl ?_
  refine yK rfl ?_
  refine aa rfl (bu rfl rfl (by constructor)) ?_
  refine yN ?_
  dsimp only [St.put]
  refine K3 _ ?_
  refine am rfl (fun _ => ?_) (fun h => by cases h)
  refine yS fun _ K4 => ?_
  refine yR ?_
  refine yA rfl rfl ?_
  refine yN ?_
  dsimp only [St.put]
  refine K4 _ ?_
  refine ar ?_
  refine ba rfl (by constructor) zN zS ?_
  exact vb (by first | (simp [fy, jh, s1]; done) | (simp [fy, jh, s2]; done) | (simp [fy, s3]; done))
 have s1 : p.firsts.length ≤ 3 := by
  have := of_decide_eq_false hs
  omega
 refine yM rfl rfl ?_
 refine yF rfl rfl rfl rfl ?_
 refine yL rfl rfl rfl ?_
 refine aa rfl (bd rfl rfl (List.length_map _)) ?_
 refine aa rfl (gp rfl rfl rfl) ?_
 refine ed (fun hs => ?_) (fun hs => ?_)
 ·have s2 : ¬ p.seconds.length ≤ 3 := by
   have := of_decide_eq_true hs
   omega
  refine aa rfl (cd rfl rfl (by constructor)) ?_
  refine yM rfl rfl ?_
  refine yK rfl ?_
  refine yK rfl ?_
  refine yK rfl ?_
  refine yK rfl ?_
  refine aa rfl (bu rfl rfl (by constructor)) ?_
  refine yN ?_
  dsimp only [St.put]
  refine K3 _ ?_
  refine am rfl (fun _ => ?_) (fun h => by cases h)
  refine yS fun _ K5 => ?_
  refine yR ?_
  refine yA rfl rfl ?_
  refine yN ?_
  dsimp only [St.put]
  refine K5 _ ?_
  refine ar ?_
  refine ba rfl (by constructor) zN zS ?_
  exact vb (by first | (simp [fy, jh, s1]; done) | (simp [fy, jh, s2]; done) | (simp [fy, s3]; done))
 have s2 : p.seconds.length ≤ 3 := by
  have := of_decide_eq_false hs
  omega
 refine aa rfl (cd rfl rfl (by constructor)) ?_
 refine yM rfl rfl ?_
 refine yF rfl rfl rfl rfl ?_
 refine yL rfl rfl rfl ?_
 refine aa rfl (bd rfl rfl (List.length_map _)) ?_
 refine aa rfl (gp rfl rfl rfl) ?_
 refine ed (fun hs => ?_) (fun hs => ?_)
 ·have s3 : ¬ p.pages.length ≤ 8 := by
   have := of_decide_eq_true hs
   omega
  refine aa rfl (cd rfl rfl (by constructor)) ?_
  refine yN ?_
  dsimp only [St.put]
  refine K3 _ ?_
  refine am rfl (fun _ => ?_) (fun h => by cases h)
  refine yS fun _ K6 => ?_
  refine yR ?_
  refine yA rfl rfl ?_
  refine yN ?_
  dsimp only [St.put]
  refine K6 _ ?_
  refine ar ?_
  refine ba rfl (by constructor) zN zS ?_
  exact vb (by first | (simp [fy, jh, s1]; done) | (simp [fy, jh, s2]; done) | (simp [fy, s3]; done))
 have s3 : p.pages.length ≤ 8 := by
  have := of_decide_eq_false hs
  omega
 obtain ⟨A, hA⟩ : ∃ A, p.firsts ++ p.seconds = A := ⟨_, rfl⟩
 have hAl : A.length ≤ 6 := by rw [← hA, List.length_append]; omega
 refine aa rfl (cd rfl rfl (by constructor)) ?_
 refine yN ?_
 dsimp only [St.put]
 refine K3 _ ?_
 refine am rfl (fun h => by cases h) (fun _ => ?_)
 refine av ?_
 refine K2 _ ?_
 refine yS fun _ K7 => ?_
 refine yR ?_
 refine yA rfl rfl ?_
 refine yN ?_
 dsimp only [St.put]
 refine K7 _ ?_
 refine ufs 3 67 2 rfl (by decide) ?_
 refine yS fun _ K8 => ?_
 refine fk [(0, none), (1, none), (2, none), (4, none), (5, none), (3, none), (6, none), (7, none)] (fun i => [6].contains i) (fun i => [3, 6].contains i) (fun i => [0, 1, 4, 7].contains i) [] (by kernel_rfl) (by kernel_rfl) ?_
 refine xM rfl rfl rfl rfl rfl ?_
 refine ah rfl rfl rfl rfl (ce rfl rfl rfl) ?_
 try dsimp only [St.put]
 refine ax rfl rfl rfl rfl (bv rfl rfl) ?_
 refine ah rfl rfl rfl rfl (ce rfl rfl rfl) ?_
 try dsimp only [St.put]
 refine ax rfl rfl rfl rfl (bv rfl rfl) ?_
 refine gw ?_
 try dsimp only [St.put]
 refine i1 rfl rfl rfl (ug (xs := ([] : List bp)) p.firsts rfl rfl zG rfl rfl rfl rfl zA zA (fun v1 => ⟨zD, ?_⟩))
 try dsimp only [St.put]
 refine i1 rfl rfl rfl (ug (xs := ([] : List bp) ++ p.firsts) p.seconds rfl rfl zG rfl rfl rfl rfl zA zA (fun v2 => ⟨zD, ?_⟩))
 refine dd rfl rfl rfl rfl (et rfl (by constructor)) ?_
 refine gl ?_
 dsimp only [St.put]
 refine K8 _ ?_
 refine uai 3 (([] : List bp) ++ p.firsts ++ p.seconds) rfl zG rfl rfl rfl ?_
 refine ct G zX ?_
 dsimp only
 rw [show ([] : List bp) ++ p.firsts ++ p.seconds = A from hA]
 refine yS fun _ K9 => ?_
 refine yS fun _ K10 => ?_
 refine yR ?_
 refine yA rfl rfl ?_
 refine yN ?_
 dsimp only [St.put]
 refine K10 _ ?_
 refine az ?_
 refine cb 9 ?_
 refine zQ ?_
 refine ct (G) zX ?_
 dsimp only
 refine cr (X := Nat) (fun i => i ≤ A.length ∧ (A.take i).all gi = true ∧ ((A.take i).map (·.id)).Nodup) (fun i => A.length - i) (fun i => [(4, .v (.int .i64 (i : Int))), (5, .any)]) (fun i G' => G') 0 rfl ?_ ?_ (fun _ _ h => h) ?_ ?_ ?_
 ·exact ⟨Nat.zero_le _, rfl, by simp⟩
 ·exact zF
 ·rintro i hI
  exact zL
 ·exact fun _ _ _ _ h => .inl h
 rintro i hI
 dsimp only at hI ⊢
 refine yS fun _ K11 => ?_
 refine yS fun _ K12 => ?_
 refine yR ?_
 refine yM rfl rfl ?_
 refine yM rfl rfl ?_
 refine aa rfl (bd rfl rfl (List.length_map _)) ?_
 refine aa rfl (ca rfl rfl rfl) ?_
 refine yN ?_
 dsimp only [St.put]
 refine K12 _ ?_
 refine am rfl (fun hc => ?_) (fun hc => ?_)
 ·replace hc := of_decide_eq_true hc
  obtain ⟨r, hr⟩ : ∃ r, A[i]? = some r := cw (by omega)
  refine av ?_
  refine K11 _ ?_
  refine yS fun _ K13 => ?_
  refine az ?_
  refine yS fun _ K14 => ?_
  refine yS fun _ K15 => ?_
  refine yR ?_
  refine yM rfl rfl ?_
  refine yM rfl rfl ?_
  refine aa rfl (bj rfl rfl rfl rfl (bi (by assumption)) (Enc.len _)) ?_
  refine yF rfl rfl rfl rfl ?_
  refine yL rfl rfl rfl ?_
  try dsimp only [St.put]
  refine ae rfl (ay rfl rfl rfl (o5 _ _ _) ?_)
  refine aa rfl (dl rfl rfl) ?_
  refine ed (fun hs => ?_) (fun hs => ?_)
  ·have q1 : inB r.id 0 9999 = false := by simpa using hs
   refine yM rfl rfl ?_
   refine yK rfl ?_
   refine yK rfl ?_
   refine yK rfl ?_
   refine yK rfl ?_
   refine yK rfl ?_
   refine yK rfl ?_
   refine yK rfl ?_
   refine aa rfl (bu rfl rfl (by constructor)) ?_
   refine yN ?_
   dsimp only [St.put]
   refine K15 _ ?_
   refine am rfl (fun _ => ?_) (fun h => by cases h)
   refine yS fun _ K16 => ?_
   refine yR ?_
   refine yA rfl rfl ?_
   refine yN ?_
   dsimp only [St.put]
   refine K16 _ ?_
   refine ar ?_
   refine ba rfl (by constructor) zN zS ?_
   exact vb (by
    have hb : gi r = false := by first | (simp [gi, q1]; done) | (simp [gi, q2]; done)
    have : A.all gi = false := j1 hr hb
    rw [← hA] at this
    simp only [fy, jh, this, Bool.and_false, Bool.false_and])
  have q1 : inB r.id 0 9999 = true := by simpa using hs
  refine yM rfl rfl ?_
  refine yM rfl rfl ?_
  refine yM rfl rfl ?_
  refine aa rfl (bj rfl rfl rfl rfl (bi (by assumption)) (Enc.len _)) ?_
  refine yF rfl rfl rfl rfl ?_
  refine yL rfl rfl rfl ?_
  try dsimp only [St.put]
  refine ae rfl (ay rfl rfl rfl (o5 _ _ _) ?_)
  refine aa rfl (dl rfl rfl) ?_
  refine ed (fun hs => ?_) (fun hs => ?_)
  ·have q2 : inB r.miss 0 90 = false := by simpa using hs
   refine aa rfl (cd rfl rfl (by constructor)) ?_
   refine yN ?_
   dsimp only [St.put]
   refine K15 _ ?_
   refine am rfl (fun _ => ?_) (fun h => by cases h)
   refine yS fun _ K17 => ?_
   refine yR ?_
   refine yA rfl rfl ?_
   refine yN ?_
   dsimp only [St.put]
   refine K17 _ ?_
   refine ar ?_
   refine ba rfl (by constructor) zN zS ?_
   exact vb (by
    have hb : gi r = false := by first | (simp [gi, q1]; done) | (simp [gi, q2]; done)
    have : A.all gi = false := j1 hr hb
    rw [← hA] at this
    simp only [fy, jh, this, Bool.and_false, Bool.false_and])
  have q2 : inB r.miss 0 90 = true := by simpa using hs
  have hrb : gi r = true := by simp [gi, q1, q2]
  refine aa rfl (cd rfl rfl (by constructor)) ?_
  refine yN ?_
  dsimp only [St.put]
  refine K15 _ ?_
  refine am rfl (fun h => by cases h) (fun _ => ?_)
  refine av ?_
  refine K14 _ ?_
  refine yS fun _ K18 => ?_
  refine yR ?_
  refine yA rfl rfl ?_
  refine yN ?_
  dsimp only [St.put]
  refine K18 _ ?_
  refine az ?_
  refine cb 9 ?_
  refine zQ ?_
  refine ct (G) zX ?_
  dsimp only
  refine cr (X := Nat) (fun k => k ≤ i ∧ ∀ y ∈ A.take k, y.id ≠ r.id) (fun k => i - k) (fun k => [(5, .v (.int .i64 (k : Int)))]) (fun k G' => G') 0 rfl ?_ ?_ (fun _ _ h => h) ?_ ?_ ?_
  ·exact ⟨Nat.zero_le _, by simp⟩
  ·exact zF
  ·rintro k hI
   exact zL
  ·exact fun _ _ _ _ h => .inl h
  rintro k hJ
  dsimp only at hJ ⊢
  refine yS fun _ K19 => ?_
  refine yS fun _ K20 => ?_
  refine yR ?_
  refine yM rfl rfl ?_
  refine yM rfl rfl ?_
  refine aa rfl (ca rfl rfl rfl) ?_
  refine yN ?_
  dsimp only [St.put]
  refine K20 _ ?_
  refine am rfl (fun hc => ?_) (fun hc => ?_)
  ·replace hc := of_decide_eq_true hc
   obtain ⟨y, hy⟩ : ∃ y, A[k]? = some y := cw (by omega)
   refine av ?_
   refine K19 _ ?_
   refine yS fun _ K21 => ?_
   refine az ?_
   refine yS fun _ K22 => ?_
   refine fk [(0, none), (1, none), (2, none), (3, none), (4, none), (5, none), (6, none), (7, none), (8, none), (9, none), (10, none)] (fun i => [].contains i) (fun i => [].contains i) (fun i => [0, 1, 2, 3, 5, 6, 7, 8, 10].contains i) [] (by kernel_rfl) (by kernel_rfl) ?_
   refine xM rfl rfl rfl rfl rfl ?_
   refine xM rfl rfl rfl rfl rfl ?_
   try dsimp only [St.put]
   refine ah rfl rfl rfl rfl (bj rfl rfl rfl rfl (bi (by assumption)) (Enc.len _)) ?_
   refine ah rfl rfl rfl rfl (ce rfl rfl rfl) ?_
   try dsimp only [St.put]
   refine ax rfl rfl rfl rfl (bv rfl rfl) ?_
   refine xM rfl rfl rfl rfl rfl ?_
   refine xM rfl rfl rfl rfl rfl ?_
   try dsimp only [St.put]
   refine ah rfl rfl rfl rfl (bj rfl rfl rfl rfl (bi (by assumption)) (Enc.len _)) ?_
   refine ah rfl rfl rfl rfl (ce rfl rfl rfl) ?_
   try dsimp only [St.put]
   refine ax rfl rfl rfl rfl (bv rfl rfl) ?_
   refine ah rfl rfl rfl rfl (ff rfl rfl rfl) ?_
   refine cg ?_
   dsimp only [St.put]
   refine K22 _ ?_
   refine am rfl (fun hc => ?_) (fun hc => ?_)
   ·have hyr : y.id = r.id := of_decide_eq_true hc
    refine yS fun _ K23 => ?_
    refine yR ?_
    refine yA rfl rfl ?_
    refine yN ?_
    dsimp only [St.put]
    refine K23 _ ?_
    refine ar ?_
    refine ba rfl (by constructor) zN zS ?_
    exact vb (by
     have : ¬ (A.map (·.id)).Nodup := yw hy hr (by omega) hyr
     rw [← hA] at this
     simp only [fy, jh, decide_eq_false this, Bool.and_false, Bool.false_and])
   have hne : y.id ≠ r.id := of_decide_eq_false hc
   refine av ?_
   refine K21 _ ?_
   refine yR ?_
   refine yM rfl rfl ?_
   refine aa rfl (bl rfl rfl rfl (by omega)) ?_
   refine yA rfl rfl ?_
   refine yN ?_
   dsimp only [St.put]
   exact ⟨k + 1, by omega, ⟨by omega, y7 (p := fun y : bp => y.id ≠ r.id) hy hne hJ.2⟩, ⟨⟨rfl, rfl⟩, zF, zB, zN, zX⟩⟩
  replace hc := of_decide_eq_false hc
  have hki : k = i := by omega
  rw [hki] at hJ
  have hnd : r.id ∉ (A.take i).map (·.id) := fun hm => by
   obtain ⟨y, hy1, hy2⟩ := List.mem_map.1 hm
   exact hJ.2 y hy1 hy2
  refine cn ?_
  refine K13 _ ?_
  refine yR ?_
  refine yM rfl rfl ?_
  refine aa rfl (bl rfl rfl rfl (by omega)) ?_
  refine yA rfl rfl ?_
  refine yN ?_
  dsimp only [St.put]
  exact ⟨i + 1, by omega, ⟨by omega, by rw [qj hr, hI.2.1, hrb]; rfl, by rw [o9 hr]; exact yx hI.2.2 hnd⟩, ⟨⟨rfl, rfl⟩, zF, zB, zN, zX⟩⟩
 replace hc := of_decide_eq_false hc
 have hRB : jh p = true := by
  have h1 := hI.2.1
  have h2 := hI.2.2
  rw [f5 (show A.length ≤ i by omega), ← hA] at h1 h2
  unfold jh
  rw [h1, decide_eq_true h2, decide_eq_true s1, decide_eq_true s2]; rfl
 refine cn ?_
 refine K9 _ ?_
 refine yS fun _ K24 => ?_
 refine yR ?_
 refine yA rfl rfl ?_
 refine yN ?_
 dsimp only [St.put]
 refine K24 _ ?_
 refine yS fun _ K25 => ?_
 refine yS fun _ K26 => ?_
 refine yR ?_
 refine yA rfl rfl ?_
 refine yN ?_
 dsimp only [St.put]
 refine K26 _ ?_
 refine az ?_
 refine cb 9 ?_
 refine zQ ?_
 refine ct (G) zX ?_
 dsimp only
 refine cr (X := Nat) (fun j => j ≤ p.pages.length ∧ px p j = true) (fun j => p.pages.length - j) (fun j => [(6, .v (.int .i64 (g8 p.pages j))), (7, .v (.int .i64 (j : Int))), (8, .any)]) (fun j G' => G') 0 rfl ?_ ?_ (fun _ _ h => h) ?_ ?_ ?_
 ·exact ⟨Nat.zero_le _, rfl⟩
 ·exact zF
 ·rintro j hI
  exact zL
 ·exact fun _ _ _ _ h => .inl h
 rintro j hK
 dsimp only at hK ⊢
 refine yS fun _ K27 => ?_
 refine yS fun _ K28 => ?_
 refine yR ?_
 refine yM rfl rfl ?_
 refine yF rfl rfl rfl rfl ?_
 refine yL rfl rfl rfl ?_
 refine aa rfl (bd rfl rfl (List.length_map _)) ?_
 refine aa rfl (ca rfl rfl rfl) ?_
 refine yN ?_
 dsimp only [St.put]
 refine K28 _ ?_
 refine am rfl (fun hc => ?_) (fun hc => ?_)
 ·replace hc := of_decide_eq_true hc
  obtain ⟨x, hx⟩ : ∃ x, p.pages[j]? = some x := cw (by omega)
  refine av ?_
  refine K27 _ ?_
  refine yS fun _ K29 => ?_
  refine az ?_
  refine yS fun _ K30 => ?_
  refine yR ?_
  refine yF rfl rfl rfl rfl ?_
  refine yL rfl rfl rfl ?_
  refine yM rfl rfl ?_
  refine aa rfl (bj rfl rfl rfl rfl (bi (by assumption)) (Enc.len _)) ?_
  refine yE rfl rfl rfl ?_
  try dsimp only [St.put]
  refine ae rfl (dx rfl ?_)
  try dsimp only [St.put]
  refine ae rfl (c6 rfl rfl rfl zG rfl rfl (by rfl) ?_)
  refine yN ?_
  dsimp only [St.put]
  refine K30 _ ?_
  refine gg (i := 8) rfl zG zC ?_
  dsimp only
  refine yS fun _ K31 => ?_
  refine cb 9 ?_
  refine zQ ?_
  refine j0 (X := Bool) (fun d => ma p (g8 p.pages j) x = !d) (fun d => [(120, .v (.bool d))]) (fun d G' => G') rfl ?_ (fun _ _ _ _ h => .inl h) ?_ ?_
  ·rintro d hI
   exact zL
  ·refine rx [(0, none), (1, none), (2, none), (3, none), (4, none), (5, none), (6, none), (7, none), (8, none), (9, none), (10, none), (11, none), (12, none), (13, none), (14, none), (15, none)] (fun _ => false) (fun i => [0, 2, 3, 4, 5, 7, 9, 10, 11, 12, 14].contains i) 23 (rl [16, 23]) (by kernel_rfl) (by kernel_rfl) ?_
   refine ah rfl rfl rfl rfl (ce rfl rfl rfl) ?_
   try dsimp only [St.put]
   refine ax rfl rfl rfl rfl (bv rfl rfl) ?_
   refine xM rfl rfl rfl rfl rfl ?_
   refine ah rfl rfl rfl rfl (tm rfl rfl rfl) ?_
   refine i7 (fun hs => ?_) (fun hs => ?_)
   ·have z1 : x.fr ≤ g8 p.pages j := of_decide_eq_true hs
    refine xM rfl rfl rfl rfl rfl ?_
    refine aj rfl rfl rfl ?_
    refine aj rfl rfl rfl ?_
    refine aj rfl rfl rfl ?_
    refine aj rfl rfl rfl ?_
    refine aj rfl rfl rfl ?_
    refine ah rfl rfl rfl rfl (bu rfl rfl (by constructor)) ?_
    refine xM rfl rfl rfl rfl rfl ?_
    refine aj rfl rfl rfl ?_
    refine aj rfl rfl rfl ?_
    refine aj rfl rfl rfl ?_
    refine aj rfl rfl rfl ?_
    refine cg ?_
    refine du [16] (by kernel_rfl) (by simp) ?_
    refine dt ?_ ?_
    ·refine f3 rfl rfl rfl ?_
     refine ef [(17, none), (18, none), (19, none), (20, none), (21, none), (22, none), (23, none), (24, none), (25, none)] (fun i => [17, 18, 19, 20, 22, 24, 25].contains i) 13 (rl [26, 13]) (by kernel_rfl) ?_
     refine aj rfl rfl rfl ?_
     refine ah rfl rfl rfl rfl (bu rfl rfl (by constructor)) ?_
     refine xM rfl rfl rfl rfl rfl ?_
     refine aj rfl rfl rfl ?_
     refine aj rfl rfl rfl ?_
     refine aj rfl rfl rfl ?_
     refine aj rfl rfl rfl ?_
     refine aj rfl rfl rfl ?_
     refine aj rfl rfl rfl ?_
     refine cg ?_
     refine du [26] (by kernel_rfl) (by simp) ?_
     refine dt ?_ ?_
     ·refine f3 rfl rfl rfl ?_
      refine ef [(27, none), (28, none), (29, none), (30, none), (31, none), (32, none), (33, none), (34, none), (35, none)] (fun i => [27, 28, 29, 30, 32, 34, 35].contains i) 3 (rl [36, 3]) (by kernel_rfl) ?_
      refine aj rfl rfl rfl ?_
      refine ah rfl rfl rfl rfl (bu rfl rfl (by constructor)) ?_
      refine xM rfl rfl rfl rfl rfl ?_
      refine aj rfl rfl rfl ?_
      refine aj rfl rfl rfl ?_
      refine aj rfl rfl rfl ?_
      refine aj rfl rfl rfl ?_
      refine aj rfl rfl rfl ?_
      refine aj rfl rfl rfl ?_
      refine cg ?_
      refine du [36] (by kernel_rfl) (by simp) ?_
      refine dt ?_ ?_
      ·refine f3 rfl rfl rfl ?_
       refine ef [(37, none), (38, none)] (fun i => [37, 38].contains i) 0 (rl [39]) (by kernel_rfl) ?_
       refine aj rfl rfl rfl ?_
       refine ah rfl rfl rfl rfl (bu rfl rfl (by constructor)) ?_
       refine cg ?_
       dsimp only [St.put]
       refine il (by kernel_rfl) ?_
       refine ⟨_, ?_, ⟨⟨rfl, rfl⟩, zF, zB, zN, zX⟩⟩
       simp_all [ma]
       try (intro h0; omega)
      exact dr
     exact dr
    exact dr
   have z1 : ¬ x.fr ≤ g8 p.pages j := of_decide_eq_false hs
   refine xM rfl rfl rfl rfl rfl ?_
   refine ah rfl rfl rfl rfl (ce rfl rfl rfl) ?_
   try dsimp only [St.put]
   refine ax rfl rfl rfl rfl (bv rfl rfl) ?_
   refine ah rfl rfl rfl rfl (ce rfl rfl rfl) ?_
   try dsimp only [St.put]
   refine ax rfl rfl rfl rfl (bv rfl rfl) ?_
   refine ah rfl rfl rfl rfl (ca rfl rfl rfl) ?_
   refine i7 (fun hs => ?_) (fun hs => ?_)
   ·have z2 : x.to < x.fr := of_decide_eq_true hs
    refine ah rfl rfl rfl rfl (cd rfl rfl (by constructor)) ?_
    refine xM rfl rfl rfl rfl rfl ?_
    refine aj rfl rfl rfl ?_
    refine aj rfl rfl rfl ?_
    refine aj rfl rfl rfl ?_
    refine aj rfl rfl rfl ?_
    refine cg ?_
    refine du [16] (by kernel_rfl) (by simp) ?_
    refine dt ?_ ?_
    ·refine f3 rfl rfl rfl ?_
     refine ef [(17, none), (18, none), (19, none), (20, none), (21, none), (22, none), (23, none), (24, none), (25, none)] (fun i => [17, 18, 19, 20, 22, 24, 25].contains i) 13 (rl [26, 13]) (by kernel_rfl) ?_
     refine aj rfl rfl rfl ?_
     refine ah rfl rfl rfl rfl (bu rfl rfl (by constructor)) ?_
     refine xM rfl rfl rfl rfl rfl ?_
     refine aj rfl rfl rfl ?_
     refine aj rfl rfl rfl ?_
     refine aj rfl rfl rfl ?_
     refine aj rfl rfl rfl ?_
     refine aj rfl rfl rfl ?_
     refine aj rfl rfl rfl ?_
     refine cg ?_
     refine du [26] (by kernel_rfl) (by simp) ?_
     refine dt ?_ ?_
     ·refine f3 rfl rfl rfl ?_
      refine ef [(27, none), (28, none), (29, none), (30, none), (31, none), (32, none), (33, none), (34, none), (35, none)] (fun i => [27, 28, 29, 30, 32, 34, 35].contains i) 3 (rl [36, 3]) (by kernel_rfl) ?_
      refine aj rfl rfl rfl ?_
      refine ah rfl rfl rfl rfl (bu rfl rfl (by constructor)) ?_
      refine xM rfl rfl rfl rfl rfl ?_
      refine aj rfl rfl rfl ?_
      refine aj rfl rfl rfl ?_
      refine aj rfl rfl rfl ?_
      refine aj rfl rfl rfl ?_
      refine aj rfl rfl rfl ?_
      refine aj rfl rfl rfl ?_
      refine cg ?_
      refine du [36] (by kernel_rfl) (by simp) ?_
      refine dt ?_ ?_
      ·refine f3 rfl rfl rfl ?_
       refine ef [(37, none), (38, none)] (fun i => [37, 38].contains i) 0 (rl [39]) (by kernel_rfl) ?_
       refine aj rfl rfl rfl ?_
       refine ah rfl rfl rfl rfl (bu rfl rfl (by constructor)) ?_
       refine cg ?_
       dsimp only [St.put]
       refine il (by kernel_rfl) ?_
       refine ⟨_, ?_, ⟨⟨rfl, rfl⟩, zF, zB, zN, zX⟩⟩
       simp_all [ma]
       try (intro h0; omega)
      exact dr
     exact dr
    exact dr
   have z2 : ¬ x.to < x.fr := of_decide_eq_false hs
   refine ah rfl rfl rfl rfl (cd rfl rfl (by constructor)) ?_
   refine xM rfl rfl rfl rfl rfl ?_
   refine ah rfl rfl rfl rfl (ce rfl rfl rfl) ?_
   try dsimp only [St.put]
   refine ax rfl rfl rfl rfl (bv rfl rfl) ?_
   refine ah rfl rfl rfl rfl (ce rfl rfl rfl) ?_
   try dsimp only [St.put]
   refine ax rfl rfl rfl rfl (c := g5 p.text) (i4 (cs := cells p) rfl rfl (show 1 ≤ 4 by decide)) ?_
   refine cg ?_
   refine du [16] (by kernel_rfl) (by simp) ?_
   refine dt ?_ ?_
   ·try dsimp only [St.put]
    refine iq rfl rfl rfl (ay rfl rfl rfl (ujq p.text ht) ?_)
    refine ef [(17, none), (18, none), (19, none), (20, none), (21, none), (22, none), (23, none), (24, none), (25, none)] (fun i => [17, 18, 19, 20, 22, 24, 25].contains i) 13 (rl [26, 13]) (by kernel_rfl) ?_
    refine ah rfl rfl rfl rfl (m4 rfl rfl rfl) ?_
    refine i7 (fun hs => ?_) (fun hs => ?_)
    ·have z3 : (l9 p.text : Int) ≤ x.to := of_decide_eq_true hs
     refine ah rfl rfl rfl rfl (cd rfl rfl (by constructor)) ?_
     refine xM rfl rfl rfl rfl rfl ?_
     refine aj rfl rfl rfl ?_
     refine aj rfl rfl rfl ?_
     refine aj rfl rfl rfl ?_
     refine aj rfl rfl rfl ?_
     refine aj rfl rfl rfl ?_
     refine aj rfl rfl rfl ?_
     refine cg ?_
     refine du [26] (by kernel_rfl) (by simp) ?_
     refine dt ?_ ?_
     ·refine f3 rfl rfl rfl ?_
      refine ef [(27, none), (28, none), (29, none), (30, none), (31, none), (32, none), (33, none), (34, none), (35, none)] (fun i => [27, 28, 29, 30, 32, 34, 35].contains i) 3 (rl [36, 3]) (by kernel_rfl) ?_
      refine aj rfl rfl rfl ?_
      refine ah rfl rfl rfl rfl (bu rfl rfl (by constructor)) ?_
      refine xM rfl rfl rfl rfl rfl ?_
      refine aj rfl rfl rfl ?_
      refine aj rfl rfl rfl ?_
      refine aj rfl rfl rfl ?_
      refine aj rfl rfl rfl ?_
      refine aj rfl rfl rfl ?_
      refine aj rfl rfl rfl ?_
      refine cg ?_
      refine du [36] (by kernel_rfl) (by simp) ?_
      refine dt ?_ ?_
      ·refine f3 rfl rfl rfl ?_
       refine ef [(37, none), (38, none)] (fun i => [37, 38].contains i) 0 (rl [39]) (by kernel_rfl) ?_
       refine aj rfl rfl rfl ?_
       refine ah rfl rfl rfl rfl (bu rfl rfl (by constructor)) ?_
       refine cg ?_
       dsimp only [St.put]
       refine il (by kernel_rfl) ?_
       refine ⟨_, ?_, ⟨⟨rfl, rfl⟩, zF, zB, zN, zX⟩⟩
       simp_all [ma]
       try (intro h0; omega)
      exact dr
     exact dr
    have z3 : ¬ (l9 p.text : Int) ≤ x.to := of_decide_eq_false hs
    refine ah rfl rfl rfl rfl (cd rfl rfl (by constructor)) ?_
    refine xM rfl rfl rfl rfl rfl ?_
    refine ah rfl rfl rfl rfl (ce rfl rfl rfl) ?_
    try dsimp only [St.put]
    refine ax rfl rfl rfl rfl (bv rfl rfl) ?_
    refine ah rfl rfl rfl rfl (ce rfl rfl rfl) ?_
    try dsimp only [St.put]
    refine ax rfl rfl rfl rfl (bv rfl rfl) ?_
    refine ah rfl rfl rfl rfl (bd rfl rfl (List.length_map _)) ?_
    refine ah rfl rfl rfl rfl (fq rfl rfl rfl (by omega)) ?_
    refine cg ?_
    refine du [26] (by kernel_rfl) (by simp) ?_
    refine dt ?_ ?_
    ·try dsimp only [St.put]
     refine iq rfl rfl rfl (ay rfl rfl rfl (o5 _ _ _) ?_)
     refine ef [(27, none), (28, none), (29, none), (30, none), (31, none), (32, none), (33, none), (34, none), (35, none)] (fun i => [27, 28, 29, 30, 32, 34, 35].contains i) 3 (rl [36, 3]) (by kernel_rfl) ?_
     refine ah rfl rfl rfl rfl (dl rfl rfl) ?_
     refine i7 (fun hs => ?_) (fun hs => ?_)
     ·have z4 : inB x.fst (-1) ((p.firsts.length : Int) - 1) = false := by simpa using hs
      refine ah rfl rfl rfl rfl (cd rfl rfl (by constructor)) ?_
      refine xM rfl rfl rfl rfl rfl ?_
      refine aj rfl rfl rfl ?_
      refine aj rfl rfl rfl ?_
      refine aj rfl rfl rfl ?_
      refine aj rfl rfl rfl ?_
      refine aj rfl rfl rfl ?_
      refine aj rfl rfl rfl ?_
      refine cg ?_
      refine du [36] (by kernel_rfl) (by simp) ?_
      refine dt ?_ ?_
      ·refine f3 rfl rfl rfl ?_
       refine ef [(37, none), (38, none)] (fun i => [37, 38].contains i) 0 (rl [39]) (by kernel_rfl) ?_
       refine aj rfl rfl rfl ?_
       refine ah rfl rfl rfl rfl (bu rfl rfl (by constructor)) ?_
       refine cg ?_
       dsimp only [St.put]
       refine il (by kernel_rfl) ?_
       refine ⟨_, ?_, ⟨⟨rfl, rfl⟩, zF, zB, zN, zX⟩⟩
       simp_all [ma]
       try (intro h0; omega)
      exact dr
     have z4 : inB x.fst (-1) ((p.firsts.length : Int) - 1) = true := by simpa using hs
     refine ah rfl rfl rfl rfl (cd rfl rfl (by constructor)) ?_
     refine xM rfl rfl rfl rfl rfl ?_
     refine ah rfl rfl rfl rfl (ce rfl rfl rfl) ?_
     try dsimp only [St.put]
     refine ax rfl rfl rfl rfl (bv rfl rfl) ?_
     refine ah rfl rfl rfl rfl (ce rfl rfl rfl) ?_
     try dsimp only [St.put]
     refine ax rfl rfl rfl rfl (bv rfl rfl) ?_
     refine ah rfl rfl rfl rfl (bd rfl rfl (List.length_map _)) ?_
     refine ah rfl rfl rfl rfl (fq rfl rfl rfl (by omega)) ?_
     refine cg ?_
     refine du [36] (by kernel_rfl) (by simp) ?_
     refine dt ?_ ?_
     ·try dsimp only [St.put]
      refine iq rfl rfl rfl (ay rfl rfl rfl (o5 _ _ _) ?_)
      refine ef [(37, none), (38, none)] (fun i => [37, 38].contains i) 0 (rl [39]) (by kernel_rfl) ?_
      refine ah rfl rfl rfl rfl (dl rfl rfl) ?_
      refine i7 (fun hs => ?_) (fun hs => ?_)
      ·have z5 : inB x.snd (-1) ((p.seconds.length : Int) - 1) = false := by simpa using hs
       refine ah rfl rfl rfl rfl (cd rfl rfl (by constructor)) ?_
       refine cg ?_
       dsimp only [St.put]
       refine il (by kernel_rfl) ?_
       refine ⟨_, ?_, ⟨⟨rfl, rfl⟩, zF, zB, zN, zX⟩⟩
       simp_all [ma]
       try (intro h0; omega)
      have z5 : inB x.snd (-1) ((p.seconds.length : Int) - 1) = true := by simpa using hs
      refine ah rfl rfl rfl rfl (cd rfl rfl (by constructor)) ?_
      refine cg ?_
      dsimp only [St.put]
      refine il (by kernel_rfl) ?_
      refine ⟨_, ?_, ⟨⟨rfl, rfl⟩, zF, zB, zN, zX⟩⟩
      simp_all [ma]
      try (intro h0; omega)
     exact dr
    exact dr
   exact dr
  rintro d hst
  dsimp only at hst ⊢
  refine am rfl (fun hc => ?_) (fun hc => ?_)
  ·have hhd : ma p (g8 p.pages j) x = false := by rw [hst, hc]; rfl
   refine yS fun _ K33 => ?_
   refine yR ?_
   refine yA rfl rfl ?_
   refine yN ?_
   dsimp only [St.put]
   refine K33 _ ?_
   refine ar ?_
   refine ba rfl (by constructor) zN zS ?_
   exact vb (vo hx (by rw [vp, hhd]; rfl)).symm
  have hhd : ma p (g8 p.pages j) x = true := by rw [hst, hc]; rfl
  refine av ?_
  refine K31 _ ?_
  refine yS fun _ K34 => ?_
  refine yS fun _ K35 => ?_
  refine yR ?_
  refine yF rfl rfl rfl rfl ?_
  try dsimp only [St.put]
  refine bw rfl (c := g5 p.text) (i4 (cs := cells p) rfl rfl (show 1 ≤ 4 by decide)) ?_
  refine yE rfl rfl rfl ?_
  refine yF rfl rfl rfl rfl ?_
  refine yL rfl rfl rfl ?_
  refine yF rfl rfl rfl rfl ?_
  refine yL rfl rfl rfl ?_
  try dsimp only [St.put]
  refine ae rfl (ay rfl rfl rfl (ub2 p.text x x.fst x.found ht) ?_)
  refine aa rfl (dl rfl rfl) ?_
  refine ed (fun hs => ?_) (fun hs => ?_)
  ·have hf1 : gy p.text x x.fst x.found = false := by simpa using hs
   refine yM rfl rfl ?_
   refine yK rfl ?_
   refine yK rfl ?_
   refine yK rfl ?_
   refine yK rfl ?_
   refine yK rfl ?_
   refine yK rfl ?_
   refine yK rfl ?_
   refine yK rfl ?_
   refine yK rfl ?_
   refine aa rfl (bu rfl rfl (by constructor)) ?_
   refine yN ?_
   dsimp only [St.put]
   refine K35 _ ?_
   refine am rfl (fun _ => ?_) (fun h => by cases h)
   refine yS fun _ K36 => ?_
   refine yR ?_
   refine yA rfl rfl ?_
   refine yN ?_
   dsimp only [St.put]
   refine K36 _ ?_
   refine ar ?_
   refine ba rfl (by constructor) zN zS ?_
   exact vb (vo hx (by rw [vp, hhd, hf1]; first | rfl | (rw [hf2]; rfl))).symm
  have hf1 : gy p.text x x.fst x.found = true := by simpa using hs
  refine yM rfl rfl ?_
  refine yF rfl rfl rfl rfl ?_
  try dsimp only [St.put]
  refine bw rfl (c := g5 p.text) (i4 (cs := cells p) rfl rfl (show 1 ≤ 4 by decide)) ?_
  refine yE rfl rfl rfl ?_
  refine yF rfl rfl rfl rfl ?_
  refine yL rfl rfl rfl ?_
  refine yF rfl rfl rfl rfl ?_
  refine yL rfl rfl rfl ?_
  try dsimp only [St.put]
  refine ae rfl (ay rfl rfl rfl (ub2 p.text x x.snd x.well ht) ?_)
  refine aa rfl (dl rfl rfl) ?_
  refine ed (fun hs => ?_) (fun hs => ?_)
  ·have hf2 : gy p.text x x.snd x.well = false := by simpa using hs
   refine aa rfl (cd rfl rfl (by constructor)) ?_
   refine yN ?_
   dsimp only [St.put]
   refine K35 _ ?_
   refine am rfl (fun _ => ?_) (fun h => by cases h)
   refine yS fun _ K37 => ?_
   refine yR ?_
   refine yA rfl rfl ?_
   refine yN ?_
   dsimp only [St.put]
   refine K37 _ ?_
   refine ar ?_
   refine ba rfl (by constructor) zN zS ?_
   exact vb (vo hx (by rw [vp, hhd, hf1]; first | rfl | (rw [hf2]; rfl))).symm
  have hf2 : gy p.text x x.snd x.well = true := by simpa using hs
  refine aa rfl (cd rfl rfl (by constructor)) ?_
  refine yN ?_
  dsimp only [St.put]
  refine K35 _ ?_
  refine am rfl (fun h => by cases h) (fun _ => ?_)
  refine av ?_
  refine K34 _ ?_
  refine yR ?_
  refine yF rfl rfl rfl rfl ?_
  refine yL rfl rfl rfl ?_
  refine yA rfl rfl ?_
  refine yN ?_
  dsimp only [St.put]
  refine K29 _ ?_
  refine yR ?_
  refine yM rfl rfl ?_
  refine aa rfl (bl rfl rfl rfl (by omega)) ?_
  refine yA rfl rfl ?_
  refine yN ?_
  dsimp only [St.put]
  rw [← udr hx]
  exact ⟨j + 1, by omega, ⟨by omega, by rw [ucc, hK.2, yj hx, vp, hhd, hf1, hf2]; rfl⟩, ⟨⟨rfl, rfl⟩, zF, zB, zN, zX⟩⟩
 replace hc := of_decide_eq_false hc
 obtain rfl : j = p.pages.length := by omega
 refine cn ?_
 refine K25 _ ?_
 refine yS fun _ K38 => ?_
 refine yR ?_
 refine yA rfl rfl ?_
 refine yN ?_
 dsimp only [St.put]
 refine K38 _ ?_
 refine ar ?_
 refine ba rfl (by constructor) zN zS ?_
 exact vb (by unfold fy; rw [hRB, hK.2, decide_eq_true s3]; rfl)
end Go.Proofs.YtbbdginipiljdaaGreatDoor
namespace Go.AB
open Go Go.RowKit
open Go.AB.Enc (cells)
open Go.PB (aw ai PlaceD bc bg bf bp aq af ci bn cx cz)
theorem qi {p : af} {n : Int} (h : ec p n = 0) : cj p = 0 ∧ ∃ (j : Nat) (x : aq), n = (j : Int) ∧ p.pages[j]? = some x ∧ l7 p n = x := by
 unfold ec at h
 by_cases hc : cj p = 0
 ·rw [decide_eq_true hc, cond_true] at h
  cases hb : inB n 0 ((p.pages.length : Int) - 1)
  ·rw [hb] at h; cases h
  rw [inB_true] at hb
  obtain ⟨x, hx⟩ : ∃ x, p.pages[n.toNat]? = some x := ⟨_, List.getElem?_eq_getElem (show n.toNat < p.pages.length by omega)⟩
  exact ⟨hc, n.toNat, x, by omega, hx, by unfold l7; rw [hx]; rfl⟩
 rw [decide_eq_false hc, cond_false] at h
 exact absurd h hc
end Go.AB
namespace Go.Proofs.YtbbdginipiljdaaGreatDoor
set_option maxRecDepth 10000
open Go.RowKit Go.AB
open Go.AB.Enc (cells)
open Go.PB (aw ai PlaceD bc bg bf bp aq af ci bn cx cz)
theorem ujw (p : af) : Pure Tryz.prog 49 [val p] (.v (.int .i64 (cj p))) := by
 refine co Tryz.func49 rfl (fun m => .v) fun G nx => ?_
 simp only [Tryz.ntmps49, List.length_cons, List.length_nil, Nat.reduceAdd, Nat.reduceSub]
 refine bq fun hlt => ?_
 dsimp only at hlt
 refine yS fun _ K1 => ?_
 refine yR ?_
 try dsimp only [St.put]
 refine yB rfl rfl rfl ?_
 refine yA rfl rfl ?_
 refine yN ?_
 dsimp only [St.put]
 refine K1 _ ?_
 refine yS fun _ K2 => ?_
 refine yS fun _ K3 => ?_
 refine yR ?_
 refine yF rfl rfl rfl rfl ?_
 try dsimp only [St.put]
 refine bw rfl (c := g5 p.text) (i4 (cs := cells p) rfl rfl (show 1 ≤ 4 by decide)) ?_
 try dsimp only [St.put]
 refine ae rfl (ay rfl rfl rfl (upi p.text) ?_)
 refine yA rfl rfl ?_
 refine yN ?_
 dsimp only [St.put]
 refine K3 _ ?_
 refine yS fun _ K4 => ?_
 refine yR ?_
 refine yM rfl rfl ?_
 refine aa rfl (fb rfl rfl rfl) ?_
 refine yN ?_
 dsimp only [St.put]
 refine K4 _ ?_
 refine am rfl (fun hc => ?_) (fun hc => ?_)
 ·have ht : dg p.text = false := by
   have h0 := jj hc
   unfold ix at h0
   cases h1 : dg p.text
   ·rfl
   rw [h1] at h0; exact absurd rfl h0
  refine yS fun _ K5 => ?_
  refine yR ?_
  refine yM rfl rfl ?_
  refine yA rfl rfl ?_
  refine yN ?_
  dsimp only [St.put]
  refine K5 _ ?_
  refine ar ?_
  refine ba rfl (by constructor) zN zS ?_
  exact vi (by simp [cj, ix, ht])
 have ht : dg p.text = true := by
  have h0 := g6 hc
  unfold ix at h0
  cases h1 : dg p.text
  ·rw [h1] at h0; cases h0
  rfl
 refine av ?_
 refine K2 _ ?_
 refine yS fun _ K6 => ?_
 refine yS fun _ K7 => ?_
 refine yR ?_
 refine yE rfl rfl rfl ?_
 try dsimp only [St.put]
 refine ae rfl (ay rfl rfl rfl (uju p ht) ?_)
 refine aa rfl (dl rfl rfl) ?_
 refine yN ?_
 dsimp only [St.put]
 refine K7 _ ?_
 refine am rfl (fun hc => ?_) (fun hc => ?_)
 ·have hp : fy p = false := by simpa using hc
  refine yS fun _ K8 => ?_
  refine yR ?_
  refine yA rfl rfl ?_
  refine yN ?_
  dsimp only [St.put]
  refine K8 _ ?_
  refine ar ?_
  refine ba rfl (by constructor) zN zS ?_
  exact vi (by simp [cj, ht, hp])
 have hp : fy p = true := by simpa using hc
 refine av ?_
 refine K6 _ ?_
 refine yS fun _ K9 => ?_
 refine yR ?_
 refine yA rfl rfl ?_
 refine yN ?_
 dsimp only [St.put]
 refine K9 _ ?_
 refine ar ?_
 refine ba rfl (by constructor) zN zS ?_
 exact vi (by simp [cj, ht, hp])
end Go.Proofs.YtbbdginipiljdaaGreatDoor
namespace Go.Proofs.YtbbdginipiljdaaGreatDoor
set_option maxRecDepth 10000
open Go.RowKit Go.AB
open Go.AB.Enc (cells)
open Go.PB (aw ai PlaceD bc bg bf bp aq af ci bn cx cz)
end Go.Proofs.YtbbdginipiljdaaGreatDoor
namespace Go.Proofs.YtbbdginipiljdaaGreatDoor
set_option maxRecDepth 10000
open Go.RowKit Go.AB
open Go.AB.Enc (cells)
open Go.PB (aw ai PlaceD bc bg bf bp aq af ci bn cx cz)
end Go.Proofs.YtbbdginipiljdaaGreatDoor
namespace Go.Proofs.YtbbdginipiljdaaGreatDoor
set_option maxRecDepth 10000
open Go.RowKit Go.AB
open Go.AB.Enc (cells)
open Go.PB (aw ai PlaceD bc bg bf bp aq af ci bn cx cz)
end Go.Proofs.YtbbdginipiljdaaGreatDoor
namespace Go.AB
open Go Go.RowKit
open Go.AB.Enc (cells)
open Go.PB (aw ai PlaceD bc bg bf bp aq af ci bn)
/-! ### First and second readers change their places -/
/-! ### Errors that are missed -/
end Go.AB
namespace Go.AB
open Go Go.RowKit
open Go.AB.Enc (cells)
open Go.PB (aw ai PlaceD bc bg bf bp aq af ci bn cx cz)
def ra (R : Nat → Int) (c : Int) (l : List Int) : Int := l.foldl (fun n z => min n (R z.toNat)) c
def kp (R : Nat → Int) (n : Int) (l : List Int) : Nat → Int := l.foldl (fun R z => fun i => bif decide (i = z.toNat) then R z.toNat - n else R i) R
theorem uh3 (R : Nat → Int) (n : Int) : kp R n [] = R := rfl
theorem uli {R : Nat → Int} {c : Int} {l : List Int} {k : Nat} {z : Int} (h : l[k]? = some z) : ra R c (l.take (k + 1)) = min (ra R c (l.take k)) (R z.toNat) := by
 unfold ra; rw [List.take_add_one, h, Option.toList_some, List.foldl_append]; rfl
theorem uh2 {R : Nat → Int} {n : Int} {l : List Int} {k : Nat} {z : Int} (h : l[k]? = some z) : kp R n (l.take (k + 1)) = fun i => bif decide (i = z.toNat) then kp R n (l.take k) z.toNat - n else kp R n (l.take k) i := by
 unfold kp; rw [List.take_add_one, h, Option.toList_some, List.foldl_append]; rfl
theorem uom {p : af} {j : Nat} {x : aq} (hx : p.pages[j]? = some x) (R C : Nat → Int) : (bk p).alone R C j = ra R (C j) (di p x) := by
 simp only [Net.alone, bk, hx, di, ra]
 by_cases q1 : 0 ≤ x.fst <;> by_cases q2 : 0 ≤ x.snd
 ·simp [q1, q2, n3, show ((p.firsts.length : Int) + x.snd).toNat = p.firsts.length + x.snd.toNat by omega]
 ·simp [q1, q2, n3]
 ·simp [q1, q2, n3, show ((p.firsts.length : Int) + x.snd).toNat = p.firsts.length + x.snd.toNat by omega]
 ·simp [q1, q2, n3]
theorem ulx {p : af} (h : dz p) {j : Nat} {x : aq} (hx : p.pages[j]? = some x) (R : Nat → Int) (n : Int) : (bk p).lessR R j n = kp R n (di p x) := by
 have hp := pageB_true.1 (h.page j x hx)
 have h1 := hp.fst
 have h2 := hp.snd
 funext i
 simp only [Net.lessR, Net.by, bk, hx, di, kp]
 by_cases q1 : 0 ≤ x.fst <;> by_cases q2 : 0 ≤ x.snd
 ·have e2 : ((p.firsts.length : Int) + x.snd).toNat = p.firsts.length + x.snd.toNat := by omega
  have hne : ¬ p.firsts.length + x.snd.toNat = x.fst.toNat := by omega
  rw [decide_eq_true q1, decide_eq_true q2]
  simp only [cond_true, List.cons_append, List.nil_append, List.foldl_cons, List.foldl_nil, e2, Option.some.injEq]
  by_cases z1 : i = x.fst.toNat
  ·have z2 : ¬ i = p.firsts.length + x.snd.toNat := by omega
   simp [z1.symm, z2, Ne.symm z2]
  ·by_cases z2 : i = p.firsts.length + x.snd.toNat
   ·simp [z1, Ne.symm z1, z2, hne, Ne.symm hne]
   ·simp [z1, Ne.symm z1, z2, Ne.symm z2]
 ·rw [decide_eq_true q1, decide_eq_false q2]
  simp only [cond_true, cond_false, List.append_nil, List.foldl_cons, List.foldl_nil, Option.some.injEq]
  by_cases z1 : i = x.fst.toNat
  ·simp [z1]
  ·simp [z1, Ne.symm z1]
 ·have e2 : ((p.firsts.length : Int) + x.snd).toNat = p.firsts.length + x.snd.toNat := by omega
  rw [decide_eq_false q1, decide_eq_true q2]
  simp only [cond_true, cond_false, List.nil_append, List.foldl_cons, List.foldl_nil, e2, Option.some.injEq]
  by_cases z2 : i = p.firsts.length + x.snd.toNat
  ·simp [z2]
  ·simp [z2, Ne.symm z2]
 ·rw [decide_eq_false q1, decide_eq_false q2]
  simp
theorem uaf {p : af} {R C : Nat → Int} (hB : Bd p R C) {j : Nat} {n : Int} (h0 : 0 ≤ n) (hn : n ≤ (bk p).alone R C j) : Bd p ((bk p).lessR R j n) (dq C j) := by
 refine ⟨fun i => ?_, fun k => ?_, hB.nr, hB.np⟩
 ·unfold Net.lessR
  cases hb : (bk p).by j i
  ·exact hB.r i
  ·have h1 := (Net.le_alone.1 hn).2 i hb
   have h2 := hB.r i
   show -1000000 ≤ R i - n ∧ R i - n ≤ 1000000
   omega
 ·unfold dq
  cases decide (k = j)
  ·exact hB.c k
  ·exact ⟨Int.le_refl _, by show (0 : Int) ≤ 1000000; omega⟩
/-- what is above has been looked at -/
def FromTop (p : af) (R C : Nat → Int) (j : Nat) (n : Int) : Prop := (bk p).pick R C j ≤ n ∧ n ≤ (bk p).alone R C j ∧ ∀ m, n < m → m ≤ (bk p).alone R C j → ¬ (bk p).most R C ≤ m + (bk p).most ((bk p).lessR R j m) (dq C j)
theorem FromTop.start {p : af} {R C : Nat → Int} {j : Nat} (h : (bk p).Pick R C j ((bk p).pick R C j)) : FromTop p R C j ((bk p).alone R C j) := ⟨h.le, Int.le_refl _, fun m h1 h2 => by omega⟩
theorem FromTop.stop {p : af} {R C : Nat → Int} {j : Nat} {n : Int} (h : (bk p).Pick R C j ((bk p).pick R C j)) (k : FromTop p R C j n) (hs : (bk p).most R C ≤ n + (bk p).most ((bk p).lessR R j n) (dq C j)) : n = (bk p).pick R C j :=
 Net.Pick.uniq ⟨Int.le_trans h.nn k.1, k.2.1, hs, k.2.2⟩ h
theorem FromTop.down {p : af} {R C : Nat → Int} {j : Nat} {n : Int} (h : (bk p).Pick R C j ((bk p).pick R C j)) (k : FromTop p R C j n) (hs : ¬ (bk p).most R C ≤ n + (bk p).most ((bk p).lessR R j n) (dq C j)) : FromTop p R C j (n - 1) := by
 refine ⟨?_, by have := k.2.1; omega, fun m h1 h2 => ?_⟩
 ·have h1 := k.1
  by_cases e : n = (bk p).pick R C j
  ·subst e
   exact absurd h.ok hs
  ·omega
 ·by_cases e : m = n
  ·subst e; exact hs
  ·exact k.2.2 m (by omega) h2
end Go.AB
namespace Go.AB
open Go Go.RowKit
open Go.AB.Enc (cells)
section
variable {P : Program} {o : Oper} {st : St} {K : St → Prop}
/-- An empty slice that is built: owned. -/
theorem ung {t e : TypeId} {sz bytes : Nat} [AppT P t e sz bytes] (ho : o.op = .buildSlice t 0 #[]) (hsz1 : 1 ≤ sz) (h : K (St.put { st with G := ak st.G st.nx (.arr 0 0 e sz 0 []), nx := st.nx + 1 } o.dst (.own st.nx 0 0))) : EStep P o st K :=
 jx fun E w a hsim => by
  obtain ⟨ht, i, z, hie, hz, h1, h2, h3⟩ := AppT.spec (P := P) (t := t) (e := e) (sz := sz) (bytes := bytes)
  obtain ⟨ob, hob⟩ : ∃ ob, ob = Obj.cells #[] e := ⟨_, rfl⟩
  have hev := Ev.laid hsim.g (o := ob) 0 (.inl rfl)
  have hg := SimG.laid hsim.g (o := ob) 0 (.inl rfl)
  have hnew : (w.alloc ob).heap[w.heap.size]? = some ob := rk w ob
  have hsz : (w.alloc ob).heap.size = w.heap.size + 1 := by simp
  have hold : ∀ n tt b, (E.lay w.heap.size 0).T n = some tt → blk tt.2.2 = some b → b < w.heap.size := fun n tt b h5 h6 => (hsim.g.tb n _ _ _ b h5 h6).2
  have hnx := hsim.g.nx
  have hfr : ∀ b o', blk (.slice (some ⟨w.heap.size, 0, none⟩) 0 0) = some b → w.heap[b]? = some o' → False := fun b o' hbk ho' => by
   simp only [blk, Option.some.injEq] at hbk
   subst hbk
   have := (Array.getElem?_eq_some_iff.1 ho').1
   omega
  have hev2 := hev.thenName (.slice (some ⟨w.heap.size, 0, none⟩) 0 0) hfr
  have hg2 := SimG.name hg (.slice (some ⟨w.heap.size, 0, none⟩) 0 0) (.arr 0 0 e sz 0 []) (fun b hbk => by
   simp only [blk, Option.some.injEq] at hbk
   subst hbk
   exact ⟨hsim.g.base, by rw [hsz]; omega, fun n tt h5 h6 => absurd (hold n tt _ h5 h6) (by omega)⟩) (by
   refine ⟨.slice (some ⟨w.heap.size, 0, none⟩) 0 0, [], ?_, ⟨by simp, .inr ⟨w.heap.size, 0, _, rfl, hsim.g.base, hnew.trans (by rw [hob]), Nat.le_refl _, Nat.zero_le _, by simp, by simp⟩⟩, fun c hc => (by cases hc), Rs.nil, fun b hbk => ?_, hsz1⟩
   ·simp [Env.name, Env.lay, hnx]
   ·simp only [blk, Option.some.injEq] at hbk
    subst hbk
    simp [Env.name, Env.lay])
  refine ⟨.slice (some ⟨w.heap.size, 0, none⟩) 0 0, w.alloc ob, _, _, _, .own st.nx 0 0, ?_, hev2, ?_, hg2, h⟩
  ·subst hob
   simp [execOp, ho, Instr.buildSlice, run_underlying ht, sizeOf, typeInfo, hie, Instr.fill, newRow, newObj, Sem.run, show (Array.map (fun _ => (default : Value)) (Array.range 0)) = #[] from by simp]
  ·refine R.own (by simp [Env.name, Env.lay]; omega) (Nat.le_refl _) (Nat.zero_le _) fun ver wv val htt => ?_
   simp only [Env.name, Env.lay, hnx, if_true, Option.some.injEq, Prod.mk.injEq] at htt
   obtain ⟨rfl, rfl, rfl⟩ := htt
   exact ⟨Nat.le_refl _, fun _ => ⟨_, Nat.le_refl _, rfl⟩⟩
end
end Go.AB
namespace Go.AB
open Go Go.RowKit
open Go.AB.Enc (cells)
variable {ρ : Option Nat}
section
variable {P : Program} {Q : Exit → St → Prop} {st : St}
end
section
variable {P : Program} {o : Oper} {st : St} {K : St → Prop}
end
end Go.AB
namespace Go.AB
open Go Go.RowKit
/-- What stands in a slot is known less well. -/
theorem xd {ρ : Option Nat} {P : Program} {Q : Exit → St → Prop} {st : St} {x : Code} (i : Nat) {c : C} (c' : C) (h0 : st.at i = c) (hw : Wk c c') (h : AW ρ P x Q { st with r := (i, c') :: st.r }) : AW ρ P x Q st := by
 intro E w a hs
 have hp := hs.at i
 rw [h0] at hp
 refine h E w a ⟨hs.d, hs.sz, fun j v hj => ?_, hs.g⟩
 simp only [ck]
 cases hb : Nat.beq i j
 ·exact hs.t j v hj
 ·have hij := Nat.eq_of_beq_eq_true hb
  subst hij
  have hv : a.tmps.getD i undef = v := by rw [Array.getD_eq_getD_getElem?, hj]; rfl
  rw [hv] at hp
  exact hw.2 _ _ _ hp
end Go.AB
namespace Go.AB
open Go Go.RowKit
open Go.AB.Enc (cells)
open Go.PB (aw ai PlaceD bc bg bf bp aq af ci bn cx cz)
theorem rq {l : List Int} {k : Nat} {z : Int} (h : l[k]? = some z) : (cp l)[k]? = some (.v (.int .i64 z)) := by
 have e : cp l = l.map fun y => .v (.int .i64 y) := by
  clear h
  induction l with
  | nil => rfl
  | cons y l ih =>
   have h1 : cp (y :: l) = cells y ++ cp l := by simp [cp]
   rw [h1, ih]; rfl
 rw [e, List.getElem?_map, h]; rfl
end Go.AB
namespace Go.Proofs.YtbbdginipiljdaaGreatDoor
set_option maxRecDepth 10000
open Go.RowKit Go.AB
open Go.AB.Enc (cells)
open Go.PB (aw ai PlaceD bc bg bf bp aq af ci bn cx cz)
theorem yf {p : af} (h : dz p) {j : Nat} {x : aq} (hx : p.pages[j]? = some x) {k : Nat} (hk : k < (di p x).length) : ∃ zn : Nat, (di p x)[k]? = some (zn : Int) ∧ zn < bx p := by
 have hp := pageB_true.1 (h.page j x hx)
 have h1 := hp.fst
 have h2 := hp.snd
 obtain ⟨z, hz⟩ : ∃ z, (di p x)[k]? = some z := ⟨_, List.getElem?_eq_getElem hk⟩
 have hm := List.mem_of_getElem? hz
 have hb : 0 ≤ z ∧ z < (bx p : Int) := by
  unfold di at hm
  unfold bx
  rw [List.mem_append] at hm
  rcases hm with hm | hm
  ·by_cases q : 0 ≤ x.fst
   ·rw [decide_eq_true q, cond_true, List.mem_singleton] at hm; omega
   rw [decide_eq_false q] at hm; cases hm
  by_cases q : 0 ≤ x.snd
  ·rw [decide_eq_true q, cond_true, List.mem_singleton] at hm; omega
  rw [decide_eq_false q] at hm; cases hm
 exact ⟨z.toNat, by rw [hz]; congr 1; omega, by omega⟩
end Go.Proofs.YtbbdginipiljdaaGreatDoor
