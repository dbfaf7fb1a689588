/-
  What the walks through the program rest on: values, states, steps, calls (GsNumber, KwWords, LaRef, PaFlow, PbData, PcWorst, PdPlain, PeSets, PfPlain, PgSides, PhApart, PiWhy, PjWhy, PlTruth, PmMore, PkGuess, PnPages, PoTrue, PsExamples, PpAdd, PqRest, AbTwin, AbCut, RaStd, OpenE, AbRem, AbBits, QaRef, QbRef, QcRef, RbSides, QdRef, QeRef, KxBefore, QfRef, QgRef, QhRef, QiRef, QjRef, QkRef).
-/
import Derived.Test.YtgffhbbcpgdjjaaGreatDoorPartB
import Derived.Lib.Hide
import Derived.Shelf.SlicesE.DeleteFunc
import Derived.Deep.Slices
import Derived.Lib.SmallJoins
import Derived.Carry
import Derived.ProofKit
import Derived.OpenShut
namespace Go.AB
open Go Go.RowKit
open Go.AB.Enc (cells)
open Go.PB (ay aj PlaceD bg bi bh)
theorem ua5 (t : aj) : (kb t).map (·.1) = pi t fun _ => some (1, 1) := by
 have key : ∀ (k n : Nat) (c : ay) (l : List ByteArray), t[k]? = some c → c.lines[n]? = some l → pz t (fun _ => some (1, 1)) ((k : Int), (n : Int)) = (lm k n l).map (·.1) := fun k n c l hc hl => by
  unfold pz
  rw [uba hc hl]
  simp only [Option.isSome_some, cond_true, Option.getD_some]
  unfold xn lm
  apply List.ext_getElem?
  intro i
  rw [List.getElem?_map, List.getElem?_map, List.getElem?_mapIdx]
  by_cases hi : i < l.length
  ·rw [List.getElem?_range hi, List.getElem?_eq_getElem hi]; rfl
  rw [List.getElem?_eq_none (by simp; omega), List.getElem?_eq_none (by omega)]; rfl
 unfold pi rx rf kb oh
 rw [List.map_flatten, tr, List.map_flatten, tr, List.flatten_flatten]
 congr 1
 rw [tr]
 apply List.ext_getElem?
 intro k
 rw [List.getElem?_mapIdx, List.getElem?_mapIdx]
 cases hc : t[k]? with
 | none => rfl
 | some c =>
  simp only [Option.map_some]
  congr 1
  rw [List.map_flatten, tr, tr]
  congr 1
  apply List.ext_getElem?
  intro n
  rw [List.getElem?_mapIdx, List.getElem?_mapIdx]
  cases hl : c.lines[n]? with
  | none => rfl
  | some l => simp only [Option.map_some]; rw [key k n c l hc hl]
def isP (p : PlaceD) (x : PW) : Bool := decide (x.1 = p)
/-- so many places are ahead of a place -/
def ut (t : aj) (p : PlaceD) : Nat := (kb t).findIdx (isP p)
theorem uuk (t : aj) : ((kb t).map (·.1)).Nodup := by rw [ua5]; exact uk9 _ _
theorem allP_mem {t : aj} {p : PlaceD} : p ∈ (kb t).map (·.1) ↔ gj t p = true := by
 rw [ua5, uqw]; simp
theorem uch {t : aj} {p : PlaceD} {k : Nat} {x : PW} (hx : (kb t)[k]? = some x) (hp : x.1 = p) : ut t p = k := by
 refine usk hx (fun y hy => ?_) (by simp [isP, hp])
 obtain ⟨j, hj⟩ := List.getElem?_of_mem hy
 rw [List.getElem?_take] at hj
 split at hj
 ·rename_i hjk
  refine decide_eq_false fun e => ?_
  exact uci hj hx hjk (f := fun z : PW => z.1) (e.trans hp.symm) (uuk t)
 cases hj
theorem zw {t : aj} {p : PlaceD} (hp : gj t p = true) : (pi t fun _ => some (1, 1))[ut t p]? = some p := by
 obtain ⟨x, hx, h⟩ := List.mem_map.1 (allP_mem.2 hp)
 obtain ⟨k, hk⟩ := List.getElem?_of_mem hx
 rw [uch hk h, ← ua5, List.getElem?_map, hk]
 simp [h]
theorem uqc {t : aj} {p q : PlaceD} (hp : gj t p = true) (hq : gj t q = true) : ut t p < ut t q ↔ ltW (dn p) (dn q) := by
 obtain ⟨a1, a2⟩ := List.getElem?_eq_some_iff.1 (zw hp)
 obtain ⟨b1, b2⟩ := List.getElem?_eq_some_iff.1 (zw hq)
 have hs := List.pairwise_iff_getElem.1 (udz t fun _ => some (1, 1))
 constructor
 ·intro h
  have := hs _ _ a1 b1 h
  rwa [a2, b2] at this
 intro h
 rcases Nat.lt_trichotomy (ut t p) (ut t q) with h1 | h1 | h1
 ·exact h1
 ·have : p = q := by
   have e1 := zw hp
   rw [h1, zw hq] at e1
   exact (Option.some.inj e1).symm
  subst this
  exact absurd h (si _)
 have := hs _ _ b1 a1 h1
 rw [a2, b2] at this
 exact absurd (u6 h this) (si _)
theorem ukl {t : aj} (ht : ed t = true) : (kb t).length ≤ 600 := by
 have h1 : ((kb t).map (·.1)).length = (pi t fun _ => some (1, 1)).length := by rw [ua5]
 have h2 := ulc ht (fun _ => some (1, 1)) (rf t)
 have h3 := uq5 ht
 unfold pi at h1
 rw [List.length_map] at h1
 omega
end Go.AB
namespace Go.Proofs.YtgffhbbcpgdjjaaGreatDoor
set_option maxRecDepth 10000
open Go.RowKit Go.AB
open Go.AB.Enc (cells)
open Go.PB (ay aj PlaceD bg bi bh)
end Go.Proofs.YtgffhbbcpgdjjaaGreatDoor
namespace Go.AB
open Go Go.RowKit
open Go.AB.Enc (cells)
open Go.PB (ay aj PlaceD bg bi bh)
/-! ### The order of words -/
/-! ### What the functions give -/
def wa (t : aj) (p : PlaceD) : ByteArray := ((ix t (p.ch, p.ln)).getD [])[p.wd.toNat]?.getD ByteArray.empty
theorem uui {t : aj} {x : PW} (hx : x ∈ kb t) : wa t x.1 = x.2 := by
 unfold kb at hx
 obtain ⟨l, hl, h1⟩ := List.mem_flatten.1 hx
 obtain ⟨k, hk, rfl⟩ := List.mem_mapIdx.1 hl
 unfold oh at h1
 obtain ⟨l2, hl2, h2⟩ := List.mem_flatten.1 h1
 obtain ⟨n, hn, rfl⟩ := List.mem_mapIdx.1 hl2
 unfold lm at h2
 obtain ⟨w, hw, rfl⟩ := List.mem_mapIdx.1 h2
 unfold wa
 dsimp only
 rw [uba (List.getElem?_eq_getElem hk) (List.getElem?_eq_getElem hn)]
 simp [hw]
end Go.AB
namespace Go.AB
open Go Go.RowKit
open Go.AB.Enc (cells)
open Go.PB (ay aj PlaceD bg bi bh)
def av (t : aj) : List PlaceD := (kb t).map (·.1)
def iu (t : aj) (k : Nat) (ls : List (List ByteArray)) (n : Nat) : List PlaceD := av (t.take k) ++ (oh k (ls.take n)).map (·.1)
def om (t : aj) (k : Nat) (ls : List (List ByteArray)) (n : Nat) (l : List ByteArray) (w : Nat) : List PlaceD := iu t k ls n ++ (lm k n (l.take w)).map (·.1)
theorem uki (t : aj) (k : Nat) (ls : List (List ByteArray)) : av (t.take k) = iu t k ls 0 := by simp [iu, oh]
theorem ukg (t : aj) (k : Nat) (ls : List (List ByteArray)) (n : Nat) (l : List ByteArray) : iu t k ls n = om t k ls n l 0 := by simp [om, lm]
theorem ukj {t : aj} {k n : Nat} {c : ay} (hk : t[k]? = some c) (hn : c.lines.length ≤ n) : iu t k c.lines n = av (t.take (k + 1)) := by
 unfold iu av
 rw [List.take_of_length_le hn, ukk hk, List.map_append]
theorem uuh {t : aj} {k n w : Nat} {ls : List (List ByteArray)} {l : List ByteArray} (hn : ls[n]? = some l) (hw : l.length ≤ w) : om t k ls n l w = iu t k ls (n + 1) := by
 unfold om iu
 rw [List.take_of_length_le hw, udf k hn, List.map_append, List.append_assoc]
theorem uug {t : aj} {k n w : Nat} {ls : List (List ByteArray)} {l : List ByteArray} (hw : w < l.length) : om t k ls n l w ++ [(⟨k, n, w⟩ : PlaceD)] = om t k ls n l (w + 1) := by
 unfold om
 rw [uq7 k n (List.getElem?_eq_getElem hw), List.map_append, List.append_assoc]; rfl
theorem mr {t : aj} (ht : ed t = true) : (av t).length ≤ 600 := by rw [av, List.length_map]; exact ukl ht
theorem ukh {t : aj} (ht : ed t = true) {k n : Nat} {c : ay} {l : List ByteArray} (hk : t[k]? = some c) (hn : c.lines[n]? = some l) (w : Nat) : (om t k c.lines n l w).length ≤ 600 := by
 have h1 := (ulm hk hn w).length_le
 have h2 := ukl ht
 simp only [List.length_append] at h1
 simp only [om, iu, av, List.length_append, List.length_map]
 omega
theorem uf1 {t : aj} {p : PlaceD} (hp : gj t p = true) : ∃ (k n w : Nat) (c : ay) (l : List ByteArray), p = ⟨k, n, w⟩ ∧ t[k]? = some c ∧ c.lines[n]? = some l ∧ l[w]? = some (wa t p) := by
 obtain ⟨l, hw, h1, h2⟩ := placeB_true.1 hp
 obtain ⟨k, n, c, hkn, hk, hn⟩ := v8 hw
 refine ⟨k, n, p.wd.toNat, c, l, ?_, hk, hn, ?_⟩
 ·have e1 : p.ch = (k : Int) := congrArg Prod.fst hkn
  have e2 : p.ln = (n : Int) := congrArg Prod.snd hkn
  obtain ⟨a, b, d⟩ := p
  dsimp only at e1 e2 h1 ⊢
  subst e1; subst e2
  rw [Int.toNat_of_nonneg h1]
 unfold wa
 rw [hw, Option.getD_some, List.getElem?_eq_getElem (by omega)]
 rfl
theorem ukm {t : aj} {k : Nat} {x : PW} (hx : (kb t)[k]? = some x) : gj t x.1 = true ∧ wa t x.1 = x.2 := by
 have hm := List.mem_of_getElem? hx
 exact ⟨allP_mem.1 (List.mem_map.2 ⟨x, hm, rfl⟩), uui hm⟩
theorem uco {α : Type} {l : List α} {k : Nat} {x : α} {p : α → Prop} (hx : l[k]? = some x) (hp : p x) (h : ∀ y ∈ l.take k, p y) : ∀ y ∈ l.take (k + 1), p y := fun y hy => by
 rw [List.take_add_one, hx] at hy
 simp only [Option.toList_some, List.mem_append, List.mem_singleton] at hy
 rcases hy with hy | rfl
 ·exact h y hy
 exact hp
/-! ### A word in its place -/
end Go.AB
namespace Go.Proofs.YtgffhbbcpgdjjaaGreatDoor
set_option maxRecDepth 10000
open Go.RowKit Go.AB
open Go.AB.Enc (cells)
open Go.PB (ay aj PlaceD bg bi bh)
theorem ub1 (t : aj) (ht : ed t = true) : Pure Tryz.prog 9 [gx t] (lst (av t)) := by
 refine dg Tryz.func9 rfl (fun m => (bv _ _)) fun G nx => ?_
 simp only [Tryz.ntmps9, List.length_cons, List.length_nil, Nat.reduceAdd, Nat.reduceSub]
 refine cb fun hlt => ?_
 dsimp only at hlt
 obtain ⟨hl1, hl2, hl3⟩ := mx ht
 refine yS fun _ K1 => ?_
 refine yR ?_
 try dsimp only [St.put]
 refine yB rfl rfl rfl ?_
 refine yA rfl rfl ?_
 refine yN ?_
 dsimp only [St.put]
 refine K1 _ ?_
 refine yS fun _ K2 => ?_
 refine yR ?_
 refine yA rfl rfl ?_
 refine yN ?_
 dsimp only [St.put]
 refine K2 _ ?_
 refine qh 3 41 3 rfl (by decide) ?_
 dsimp only [List.set_cons_zero, List.set_cons_succ]
 refine yS fun _ K3 => ?_
 refine yS fun _ K4 => ?_
 refine yR ?_
 refine yA rfl rfl ?_
 refine yN ?_
 dsimp only [St.put]
 refine K4 _ ?_
 refine bf ?_
 refine cm 7 ?_
 refine zQ ?_
 refine dm (ai G nx (.tip 0 41 3)) zX ?_
 dsimp only
 refine dj (X := Nat) (fun k => k ≤ t.length) (fun k => t.length - k) (fun k => [(3, .list ((av (t.take k)).map cells) (.tip nx)), (4, .v (.int .i64 (k : Int))), (5, .any), (6, .any)]) (fun k G' => (ai G nx (.tip ((av (t.take k))).length 41 3))) 0 rfl ?_ ?_ ?_ ?_ ?_ ?_
 ·exact Nat.zero_le _
 ·exact zF
 ·exact zX
 ·rintro k hI
  exact zL
 ·rintro k hI
  exact zH
 rintro k hI
 dsimp only at hI ⊢
 refine yS fun _ K5 => ?_
 refine yS fun _ K6 => ?_
 refine yR ?_
 refine yM rfl rfl ?_
 refine yF rfl rfl rfl rfl ?_
 refine yL rfl rfl rfl ?_
 refine aa rfl (bp rfl rfl (List.length_map _)) ?_
 refine aa rfl (ck rfl rfl rfl) ?_
 refine yN ?_
 dsimp only [St.put]
 refine K6 _ ?_
 refine aq rfl (fun hc => ?_) (fun hc => ?_)
 ·replace hc := of_decide_eq_true hc
  obtain ⟨c, hk⟩ : ∃ x, t[k]? = some x := dl (by omega)
  have hcl := hl3 c (gh hk)
  refine ax ?_
  refine K5 _ ?_
  refine yS fun _ K7 => ?_
  refine bf ?_
  refine yS fun _ K8 => ?_
  refine yR ?_
  refine yA rfl rfl ?_
  refine yN ?_
  dsimp only [St.put]
  rw [uki t k c.lines]
  refine K8 _ ?_
  refine bf ?_
  refine cm 7 ?_
  refine zQ ?_
  refine dm ((ai G nx (.tip ((iu t k c.lines 0)).length 41 3))) zX ?_
  dsimp only
  refine dj (X := Nat) (fun n => n ≤ c.lines.length) (fun n => c.lines.length - n) (fun n => [(3, .list ((iu t k c.lines n).map cells) (.tip nx)), (5, .v (.int .i64 (n : Int))), (6, .any)]) (fun n G' => (ai G nx (.tip ((iu t k c.lines n)).length 41 3))) 0 rfl ?_ ?_ ?_ ?_ ?_ ?_
  ·exact Nat.zero_le _
  ·exact zF
  ·exact zX
  ·rintro n hI
   exact zL
  ·rintro n hI
   exact zH
  rintro n hJ
  dsimp only at hJ ⊢
  refine yS fun _ K9 => ?_
  refine yS fun _ K10 => ?_
  refine yR ?_
  refine yM rfl rfl ?_
  refine yF rfl rfl rfl rfl ?_
  refine yL rfl rfl rfl ?_
  refine yM rfl rfl ?_
  refine aa rfl (bw rfl rfl rfl rfl (bu (by assumption)) (Enc.len _)) ?_
  refine yF rfl rfl rfl rfl ?_
  refine yL rfl rfl rfl ?_
  refine aa rfl (bp rfl rfl (List.length_map _)) ?_
  refine aa rfl (ck rfl rfl rfl) ?_
  refine yN ?_
  dsimp only [St.put]
  refine K10 _ ?_
  refine aq rfl (fun hc => ?_) (fun hc => ?_)
  ·replace hc := of_decide_eq_true hc
   obtain ⟨l, hn⟩ : ∃ x, c.lines[n]? = some x := dl (by omega)
   have hll := hcl.2.2 l (gh hn)
   refine ax ?_
   refine K9 _ ?_
   refine yS fun _ K11 => ?_
   refine bf ?_
   refine yS fun _ K12 => ?_
   refine yR ?_
   refine yA rfl rfl ?_
   refine yN ?_
   dsimp only [St.put]
   rw [ukg t k c.lines n l]
   refine K12 _ ?_
   refine bf ?_
   refine cm 7 ?_
   refine zQ ?_
   refine dm ((ai G nx (.tip ((om t k c.lines n l 0)).length 41 3))) zX ?_
   dsimp only
   refine dj (X := Nat) (fun w => w ≤ l.length) (fun w => l.length - w) (fun w => [(3, .list ((om t k c.lines n l w).map cells) (.tip nx)), (6, .v (.int .i64 (w : Int)))]) (fun w G' => (ai G nx (.tip ((om t k c.lines n l w)).length 41 3))) 0 rfl ?_ ?_ ?_ ?_ ?_ ?_
   ·exact Nat.zero_le _
   ·exact zF
   ·exact zX
   ·rintro w hI
    exact zL
   ·rintro w hI
    exact zH
   rintro w hW
   dsimp only at hW ⊢
   refine yS fun _ K13 => ?_
   refine yS fun _ K14 => ?_
   refine yR ?_
   refine yM rfl rfl ?_
   refine yF rfl rfl rfl rfl ?_
   refine yL rfl rfl rfl ?_
   refine yM rfl rfl ?_
   refine aa rfl (bw rfl rfl rfl rfl (bu (by assumption)) (Enc.len _)) ?_
   refine yF rfl rfl rfl rfl ?_
   refine yL rfl rfl rfl ?_
   refine yM rfl rfl ?_
   refine aa rfl (bw rfl rfl rfl rfl (bu (by assumption)) (Enc.len _)) ?_
   refine yL rfl rfl rfl ?_
   refine aa rfl (bp rfl rfl (List.length_map _)) ?_
   refine aa rfl (ck rfl rfl rfl) ?_
   refine yN ?_
   dsimp only [St.put]
   refine K14 _ ?_
   refine aq rfl (fun hc => ?_) (fun hc => ?_)
   ·replace hc := of_decide_eq_true hc
    have hlen := ukh ht hk hn w
    refine ax ?_
    refine K13 _ ?_
    refine yS fun _ K15 => ?_
    refine bf ?_
    refine yR ?_
    refine yM rfl rfl ?_
    refine yM rfl rfl ?_
    refine yM rfl rfl ?_
    refine yM rfl rfl ?_
    refine aa rfl (iz rfl rfl) ?_
    try dsimp only [St.put]
    refine ae rfl (ef rfl rfl rfl (by decide) (by decide) zR (by decide) ?_)
    try dsimp only [St.put]
    refine ae rfl (jz ([(⟨k, n, w⟩ : PlaceD)]) rfl rfl zG zE rfl rfl zA ?_ zA)
    refine yA rfl rfl ?_
    refine yN ?_
    dsimp only [St.put]
    refine K15 _ ?_
    refine yR ?_
    refine yM rfl rfl ?_
    refine aa rfl (br rfl rfl rfl (by omega)) ?_
    refine yA rfl rfl ?_
    refine yN ?_
    dsimp only [St.put]
    rw [uug (w := w) (by omega)]
    exact ⟨w + 1, by omega, by omega, ⟨⟨rfl, rfl⟩, zF, zB, zN, zX⟩⟩
   try replace hc := of_decide_eq_false hc
   refine c6 ?_
   refine K11 _ ?_
   refine yR ?_
   refine yM rfl rfl ?_
   refine aa rfl (br rfl rfl rfl (by omega)) ?_
   refine yA rfl rfl ?_
   refine yN ?_
   dsimp only [St.put]
   rw [uuh (k := k) (w := w) hn (by omega)]
   exact ⟨n + 1, by omega, by omega, ⟨⟨rfl, rfl⟩, zF, zB, zN, zX⟩⟩
  try replace hc := of_decide_eq_false hc
  refine c6 ?_
  refine K7 _ ?_
  refine yR ?_
  refine yM rfl rfl ?_
  refine aa rfl (br rfl rfl rfl (by omega)) ?_
  refine yA rfl rfl ?_
  refine yN ?_
  dsimp only [St.put]
  rw [ukj (n := n) hk (by omega)]
  exact ⟨k + 1, by omega, by omega, ⟨⟨rfl, rfl⟩, zF, zB, zN, zX⟩⟩
 try replace hc := of_decide_eq_false hc
 refine c6 ?_
 refine K3 _ ?_
 refine yS fun _ K16 => ?_
 refine yR ?_
 refine yM rfl rfl ?_
 refine yA rfl rfl ?_
 refine yN ?_
 dsimp only [St.put]
 rw [ia (show t.length ≤ k by omega)]
 refine K16 _ ?_
 refine ar ?_
 refine qd rfl (ey (by constructor)) zN zS ?_
 exact zW
end Go.Proofs.YtgffhbbcpgdjjaaGreatDoor
namespace Go.AB
/-- a sum -/
def sm : Nat → (Nat → Int) → Int
 | 0, _ => 0
 | n + 1, g => sm n g + g n
theorem pm : ∀ {n : Nat} {g h : Nat → Int}, (∀ i, i < n → g i ≤ h i) → sm n g ≤ sm n h
 | 0, _, _, _ => Int.le_refl _
 | n + 1, g, h, H => by
  have h1 := pm (n := n) fun i hi => H i (by omega)
  have h2 := H n (by omega)
  simp only [sm]; omega
theorem jv : ∀ {n : Nat} {g h : Nat → Int}, (∀ i, i < n → g i = h i) → sm n g = sm n h
 | 0, _, _, _ => rfl
 | n + 1, g, h, H => by
  have h1 := jv (n := n) fun i hi => H i (by omega)
  have h2 := H n (by omega)
  simp only [sm]; omega
theorem qs : ∀ (n : Nat) (g h : Nat → Int), sm n (fun i => g i + h i) = sm n g + sm n h
 | 0, _, _ => rfl
 | n + 1, g, h => by have := qs n g h; simp only [sm]; omega
theorem uk : ∀ (n : Nat) (g h : Nat → Int), sm n (fun i => g i - h i) = sm n g - sm n h
 | 0, _, _ => rfl
 | n + 1, g, h => by have := uk n g h; simp only [sm]; omega
theorem pk : ∀ n : Nat, sm n (fun _ => 0) = 0
 | 0 => rfl
 | n + 1 => by have := pk n; simp only [sm]; omega
theorem ue0 {n : Nat} {g : Nat → Int} (H : ∀ i, i < n → 0 ≤ g i) : 0 ≤ sm n g := by
 have := pm (g := fun _ => 0) H
 rwa [pk] at this
theorem tg : ∀ {n k : Nat} (_ : k < n) (v : Int), sm n (fun i => bif decide (i = k) then v else 0) = v
 | 0, _, h, _ => absurd h (Nat.not_lt_zero _)
 | n + 1, k, h, v => by
  simp only [sm]
  by_cases e : n = k
  ·subst e
   rw [jv (h := fun _ => 0) (fun i hi => by rw [decide_eq_false (by omega)]; rfl), pk, decide_eq_true rfl]
   simp
  ·rw [tg (n := n) (by omega) v, decide_eq_false e]
   simp
theorem uey : ∀ (n m : Nat) (g : Nat → Nat → Int), sm n (fun i => sm m (g i)) = sm m (fun j => sm n fun i => g i j)
 | 0, m, g => by simp only [sm]; exact (pk m).symm
 | n + 1, m, g => by
  have := uey n m g
  simp only [sm]
  rw [qs, this]
theorem uez {n k : Nat} {g : Nat → Int} (hk : k < n) (H : ∀ i, i < n → 0 ≤ g i) : g k ≤ sm n g := by
 have h1 := pm (n := n) (g := fun i => bif decide (i = k) then g k else 0) (h := g) fun i hi => by
  by_cases e : i = k
  ·subst e; simp
  ·rw [decide_eq_false e]; exact H i hi
 rwa [tg hk] at h1

/-- pages, each with a first and a second reader, or one of them, or none -/
structure Net where
 nF : Nat
 nr : Nat
 np : Nat
 fr : Nat → Option Nat
 sc : Nat → Option Nat
structure Net.Ok (N : Net) : Prop where
 le : N.nF ≤ N.nr
 fr : ∀ j i, N.fr j = some i → i < N.nF
 sc : ∀ j i, N.sc j = some i → N.nF ≤ i ∧ i < N.nr
def ob (S : Nat → Bool) : Option Nat → Bool
 | none => false
 | some i => S i
def Net.hit (N : Net) (S : Nat → Bool) (j : Nat) : Bool := ob S (N.fr j) || ob S (N.sc j)
/-- who reads a page -/
def Net.by (N : Net) (j i : Nat) : Bool := decide (N.fr j = some i) || decide (N.sc j = some i)
/-- what a set of readers proves -/
def Net.f (N : Net) (R C : Nat → Int) (S : Nat → Bool) : Int := sm N.nr (fun i => bif S i then R i else 0) + sm N.np (fun j => bif N.hit S j then 0 else C j)
/-- what may remain -/
structure Net.Feas (N : Net) (R C y : Nat → Int) : Prop where
 page : ∀ j, j < N.np → 0 ≤ y j ∧ y j ≤ C j
 rd : ∀ i, i < N.nr → sm N.np (fun j => bif N.by j i then y j else 0) ≤ R i
section
variable {N : Net} {R C : Nat → Int}
theorem Net.Ok.by_lt (h : N.Ok) {j i : Nat} (hb : N.by j i = true) : i < N.nr := by
 simp only [Net.by, Bool.or_eq_true, decide_eq_true_eq] at hb
 rcases hb with e | e
 ·have := h.fr j i e; have := h.le; omega
 ·exact (h.sc j i e).2
theorem Net.hit_iff {S : Nat → Bool} {j : Nat} : N.hit S j = true ↔ ∃ i, N.by j i = true ∧ S i = true := by
 unfold Net.hit Net.by
 constructor
 ·intro h
  rw [Bool.or_eq_true] at h
  rcases h with h | h
  ·cases e : N.fr j with
   | none => rw [e] at h; cases h
   | some i => rw [e] at h; exact ⟨i, by simp, h⟩
  ·cases e : N.sc j with
   | none => rw [e] at h; cases h
   | some i => rw [e] at h; exact ⟨i, by simp, h⟩
 ·rintro ⟨i, h1, h2⟩
  simp only [Bool.or_eq_true, decide_eq_true_eq] at h1 ⊢
  rcases h1 with e | e
  ·rw [e]; exact .inl h2
  ·rw [e]; exact .inr h2
theorem Net.f_congr (hN : N.Ok) {S S' : Nat → Bool} (h : ∀ i, i < N.nr → S i = S' i) : N.f R C S = N.f R C S' := by
 have h2 : ∀ j, N.hit S j = N.hit S' j := fun j => by
  rw [Bool.eq_iff_iff, Net.hit_iff, Net.hit_iff]
  exact ⟨fun ⟨i, q1, q2⟩ => ⟨i, q1, (h i (hN.by_lt q1)) ▸ q2⟩, fun ⟨i, q1, q2⟩ => ⟨i, q1, (h i (hN.by_lt q1)).symm ▸ q2⟩⟩
 have e1 : sm N.nr (fun i => bif S i then R i else 0) = sm N.nr (fun i => bif S' i then R i else 0) := jv fun i hi => by rw [h i hi]
 have e2 : sm N.np (fun j => bif N.hit S j then 0 else C j) = sm N.np (fun j => bif N.hit S' j then 0 else C j) := jv fun j _ => by rw [h2 j]
 unfold Net.f
 rw [e1, e2]
/-- no more remains than any readers prove -/
theorem Net.Feas.le {y : Nat → Int} (hN : N.Ok) (h : N.Feas R C y) (S : Nat → Bool) : sm N.np y ≤ N.f R C S := by
 have h1 : sm N.np (fun j => bif N.hit S j then y j else 0) ≤ sm N.nr (fun i => bif S i then R i else 0) := by
  have h2 : sm N.nr (fun i => sm N.np fun j => bif S i then (bif N.by j i then y j else 0) else 0) ≤ sm N.nr (fun i => bif S i then R i else 0) := pm fun i hi => by
   cases hS : S i
   ·simp only [cond_false, pk]; exact Int.le_refl _
   ·simp only [cond_true]; exact h.rd i hi
  refine Int.le_trans ?_ h2
  rw [uey]
  refine pm fun j hj => ?_
  have hy := (h.page j hj).1
  have hnn : ∀ i, i < N.nr → 0 ≤ (bif S i then (bif N.by j i then y j else 0) else 0) := fun i _ => by
   cases S i <;> cases N.by j i <;> simp [hy]
  cases hh : N.hit S j
  ·exact ue0 hnn
  ·obtain ⟨i, q1, q2⟩ := Net.hit_iff.1 hh
   have := uez (hN.by_lt q1) hnn
   simpa [q1, q2] using this
 have h3 : sm N.np (fun j => bif N.hit S j then 0 else y j) ≤ sm N.np (fun j => bif N.hit S j then 0 else C j) := pm fun j hj => by
  cases N.hit S j
  ·exact (h.page j hj).2
  ·exact Int.le_refl _
 have h4 : sm N.np y = sm N.np (fun j => bif N.hit S j then y j else 0) + sm N.np (fun j => bif N.hit S j then 0 else y j) := by
  rw [← qs]
  exact jv fun j _ => by cases N.hit S j <;> simp
 unfold Net.f
 omega
/-- two sets of readers, crossed -/
def o7 (nF : Nat) (S T : Nat → Bool) (i : Nat) : Bool := bif decide (i < nF) then S i || T i else S i && T i
def o6 (nF : Nat) (S T : Nat → Bool) (i : Nat) : Bool := bif decide (i < nF) then S i && T i else S i || T i
theorem Net.cross (hN : N.Ok) (hC : ∀ j, j < N.np → 0 ≤ C j) (S T : Nat → Bool) : N.f R C (o7 N.nF S T) + N.f R C (o6 N.nF S T) ≤ N.f R C S + N.f R C T := by
 have h1 : sm N.nr (fun i => bif o7 N.nF S T i then R i else 0) + sm N.nr (fun i => bif o6 N.nF S T i then R i else 0) = sm N.nr (fun i => bif S i then R i else 0) + sm N.nr (fun i => bif T i then R i else 0) := by
  rw [← qs, ← qs]
  refine jv fun i _ => ?_
  unfold o7 o6
  cases decide (i < N.nF) <;> cases S i <;> cases T i <;> simp
 have h2 : sm N.np (fun j => bif N.hit (o7 N.nF S T) j then 0 else C j) + sm N.np (fun j => bif N.hit (o6 N.nF S T) j then 0 else C j) ≤ sm N.np (fun j => bif N.hit S j then 0 else C j) + sm N.np (fun j => bif N.hit T j then 0 else C j) := by
  rw [← qs, ← qs]
  refine pm fun j hj => ?_
  have hc := hC j hj
  have e1 : ∀ U V : Nat → Bool, ob (o7 N.nF U V) (N.fr j) = (ob U (N.fr j) || ob V (N.fr j)) := fun U V => by
   cases e : N.fr j with
   | none => rfl
   | some i => simp only [ob, o7, decide_eq_true (hN.fr j i e), cond_true]
  have e2 : ∀ U V : Nat → Bool, ob (o6 N.nF U V) (N.fr j) = (ob U (N.fr j) && ob V (N.fr j)) := fun U V => by
   cases e : N.fr j with
   | none => rfl
   | some i => simp only [ob, o6, decide_eq_true (hN.fr j i e), cond_true]
  have e3 : ∀ U V : Nat → Bool, ob (o7 N.nF U V) (N.sc j) = (ob U (N.sc j) && ob V (N.sc j)) := fun U V => by
   cases e : N.sc j with
   | none => rfl
   | some i => have := hN.sc j i e; simp only [ob, o7, decide_eq_false (show ¬ i < N.nF by omega), cond_false]
  have e4 : ∀ U V : Nat → Bool, ob (o6 N.nF U V) (N.sc j) = (ob U (N.sc j) || ob V (N.sc j)) := fun U V => by
   cases e : N.sc j with
   | none => rfl
   | some i => have := hN.sc j i e; simp only [ob, o6, decide_eq_false (show ¬ i < N.nF by omega), cond_false]
  simp only [Net.hit, e1, e2, e3, e4]
  cases ob S (N.fr j) <;> cases ob T (N.fr j) <;> cases ob S (N.sc j) <;> cases ob T (N.sc j) <;> simp <;> omega
 unfold Net.f
 omega
/-- so much less for the readers of a page, and nothing more on it -/
def Net.lessR (N : Net) (R : Nat → Int) (j : Nat) (n : Int) (i : Nat) : Int := bif N.by j i then R i - n else R i
def fk (C : Nat → Int) (j k : Nat) : Int := bif decide (k = j) then 0 else C k
def cnt (S : Nat → Bool) (o : Option Nat) (n : Int) : Int := bif ob S o then n else 0
theorem Net.f_less (hN : N.Ok) {j : Nat} (hj : j < N.np) (n : Int) (S : Nat → Bool) : N.f (N.lessR R j n) (fk C j) S = N.f R C S - cnt S (N.fr j) n - cnt S (N.sc j) n - (bif N.hit S j then 0 else C j) := by
 have h1 : sm N.np (fun k => bif N.hit S k then 0 else fk C j k) = sm N.np (fun k => bif N.hit S k then 0 else C k) - (bif N.hit S j then 0 else C j) := by
  have := tg hj (bif N.hit S j then 0 else C j)
  rw [← this, ← uk]
  refine jv fun k _ => ?_
  by_cases e : k = j
  ·subst e; simp [fk]
  ·simp [fk, e]
 have h2 : ∀ o : Option Nat, (∀ i, o = some i → i < N.nr) → sm N.nr (fun i => bif decide (o = some i) then (bif S i then n else 0) else 0) = cnt S o n := fun o ho => by
  cases o with
  | none => simp only [cnt, ob, cond_false]; rw [jv (h := fun _ => 0) (fun i _ => by simp), pk]
  | some k =>
   have := tg (ho k rfl) (bif S k then n else 0)
   rw [jv (h := fun i => bif decide (i = k) then (bif S k then n else 0) else 0)]
   ·exact this
   ·intro i _
    by_cases e : i = k
    ·subst e; simp
    ·simp [e, Ne.symm e]
 have h3 : sm N.nr (fun i => bif S i then N.lessR R j n i else 0) = sm N.nr (fun i => bif S i then R i else 0) - cnt S (N.fr j) n - cnt S (N.sc j) n := by
  rw [← h2 (N.fr j) (fun i e => by have := hN.fr j i e; have := hN.le; omega), ← h2 (N.sc j) (fun i e => (hN.sc j i e).2), ← uk, ← uk]
  refine jv fun i _ => ?_
  unfold Net.lessR Net.by
  have hx : ¬ (N.fr j = some i ∧ N.sc j = some i) := fun ⟨q1, q2⟩ => by have := hN.fr j i q1; have := (hN.sc j i q2).1; omega
  by_cases q1 : N.fr j = some i
  ·have q2 : ¬ N.sc j = some i := fun q2 => hx ⟨q1, q2⟩
   cases S i <;> simp [q1, q2]
  ·by_cases q2 : N.sc j = some i
   ·cases S i <;> simp [q1, q2]
   ·cases S i <;> simp [q1, q2]
 unfold Net.f
 rw [h1, h3]
 omega
/-- the least of some numbers, as it is looked for -/
def n9 (g : Nat → Int) : Nat → Int
 | 0 => g 0
 | k + 1 => min (n9 g k) (g k)
theorem uhd {g : Nat → Int} : ∀ {k s : Nat}, s < k ∨ s = 0 → n9 g k ≤ g s
 | 0, s, h => by
  obtain rfl : s = 0 := by omega
  exact Int.le_refl _
 | k + 1, s, h => by
  by_cases e : s = k
  ·subst e; exact Int.min_le_right _ _
  ·have := uhd (g := g) (k := k) (s := s) (by omega)
   exact Int.le_trans (Int.min_le_left _ _) this
theorem ucn {g : Nat → Int} : ∀ k : Nat, ∃ s, (s < k ∨ s = 0) ∧ n9 g k = g s
 | 0 => ⟨0, .inr rfl, rfl⟩
 | k + 1 => by
  obtain ⟨s, h1, h2⟩ := ucn (g := g) k
  by_cases e : n9 g k ≤ g k
  ·exact ⟨s, by omega, by rw [n9, Int.min_eq_left e, h2]⟩
  ·exact ⟨k, by omega, by rw [n9, Int.min_eq_right (by omega)]⟩
/-- a set as a number -/
def sx (S : Nat → Bool) : Nat → Nat
 | 0 => 0
 | n + 1 => sx S n ||| (bif S n then 2 ^ n else 0)
theorem ujt (S : Nat → Bool) : ∀ n, sx S n < 2 ^ n
 | 0 => by simp [sx]
 | n + 1 => by
  have h := ujt S n
  have h2 : 2 ^ n < 2 ^ (n + 1) := Nat.pow_lt_pow_right (by omega) (by omega)
  unfold sx
  refine Nat.or_lt_two_pow (by omega) ?_
  cases S n
  ·exact Nat.two_pow_pos _
  ·exact h2
theorem uju (S : Nat → Bool) : ∀ n i, (sx S n).testBit i = (decide (i < n) && S i)
 | 0, i => by simp [sx]
 | n + 1, i => by
  have h := uju S n i
  unfold sx
  rw [Nat.testBit_or, h]
  by_cases e : i = n
  ·subst e
   cases hS : S i <;> simp
  ·have e2 : decide (i < n + 1) = decide (i < n) := by rw [decide_eq_decide]; omega
   rw [e2]
   cases hS : S n
   ·simp
   ·simp only [cond_true, Nat.testBit_two_pow]
    rw [decide_eq_false (Ne.symm e), Bool.or_false]
def Net.most (N : Net) (R C : Nat → Int) : Int := n9 (fun s => N.f R C fun i => s.testBit i) (2 ^ N.nr)
theorem Net.most_le (hN : N.Ok) (S : Nat → Bool) : N.most R C ≤ N.f R C S := by
 have h := uhd (g := fun s => N.f R C fun i => s.testBit i) (k := 2 ^ N.nr) (s := sx S N.nr) (.inl (ujt S _))
 refine Int.le_trans h (Int.le_of_eq (Net.f_congr hN fun i hi => ?_))
 rw [uju, decide_eq_true hi, Bool.true_and]
theorem Net.most_get (N : Net) (R C : Nat → Int) : ∃ S : Nat → Bool, N.most R C = N.f R C S := by
 obtain ⟨s, _, h⟩ := ucn (g := fun s => N.f R C fun i => s.testBit i) (2 ^ N.nr)
 exact ⟨fun i => s.testBit i, h⟩
def rb (n : Int) (R : Nat → Int) : Option Nat → Int
 | none => n
 | some i => min n (R i)
/-- the most on one page -/
def Net.alone (N : Net) (R C : Nat → Int) (j : Nat) : Int := rb (rb (C j) R (N.fr j)) R (N.sc j)
theorem uhc {n m : Int} {o : Option Nat} : m ≤ rb n R o ↔ m ≤ n ∧ ∀ i, o = some i → m ≤ R i := by
 cases o with
 | none => simp [rb]
 | some k => simp only [rb, Int.le_min, Option.some.injEq, forall_eq']
theorem Net.le_alone {j : Nat} {m : Int} : m ≤ N.alone R C j ↔ m ≤ C j ∧ ∀ i, N.by j i = true → m ≤ R i := by
 unfold Net.alone Net.by
 rw [uhc, uhc]
 simp only [Bool.or_eq_true, decide_eq_true_eq]
 exact ⟨fun ⟨⟨h1, h2⟩, h3⟩ => ⟨h1, fun i hi => hi.elim (h2 i) (h3 i)⟩, fun ⟨h1, h2⟩ => ⟨⟨h1, fun i hi => h2 i (.inl hi)⟩, fun i hi => h2 i (.inr hi)⟩⟩
/-- what remains, and so much less of it -/
theorem Net.less_le (hN : N.Ok) {j : Nat} (hj : j < N.np) {n : Int} (h0 : 0 ≤ n) (hn : n ≤ C j) : n + N.most (N.lessR R j n) (fk C j) ≤ N.most R C := by
 obtain ⟨S, hS⟩ := N.most_get R C
 have h1 := Net.most_le (R := N.lessR R j n) (C := fk C j) hN S
 rw [Net.f_less hN hj] at h1
 rw [hS]
 cases e : N.hit S j
 ·rw [e] at h1
  have e2 := e
  unfold Net.hit at e2
  rw [Bool.or_eq_false_iff] at e2
  simp only [cnt, e2.1, e2.2, cond_false] at h1
  omega
 ·rw [e] at h1
  unfold Net.hit at e
  rw [Bool.or_eq_true] at e
  unfold cnt at h1
  rcases e with q | q
  ·rw [q] at h1
   cases e2 : ob S (N.sc j) <;> rw [e2] at h1 <;> simp only [cond_true, cond_false] at h1 <;> omega
  ·rw [q] at h1
   cases e2 : ob S (N.fr j) <;> rw [e2] at h1 <;> simp only [cond_true, cond_false] at h1 <;> omega
/-- of each page there is a worst number of errors -/
theorem Net.greedy (hN : N.Ok) (hR : ∀ i, i < N.nr → 0 ≤ R i) (hC : ∀ j, j < N.np → 0 ≤ C j) {j : Nat} (hj : j < N.np) : ∃ n : Int, 0 ≤ n ∧ n ≤ N.alone R C j ∧ N.most R C ≤ n + N.most (N.lessR R j n) (fk C j) := by
 -- the largest number that every set allows
 have hcj := hC j hj
 have hal : 0 ≤ N.alone R C j := Net.le_alone.2 ⟨hcj, fun i hi => hR i (hN.by_lt hi)⟩
 have key : ∀ n : Int, 0 ≤ n → n ≤ N.alone R C j → (∀ S, ob S (N.fr j) = true → ob S (N.sc j) = true → N.most R C ≤ N.f R C S - n) → (n = N.alone R C j ∨ ∃ S, ob S (N.fr j) = true ∧ ob S (N.sc j) = true ∧ N.f R C S - n = N.most R C) → N.most R C ≤ n + N.most (N.lessR R j n) (fk C j) := by
  intro n h0 h1 h2 h3
  obtain ⟨S, hS⟩ := N.most_get (N.lessR R j n) (fk C j)
  rw [hS, Net.f_less hN hj]
  have hm := Net.most_le (R := R) (C := C) hN S
  cases e1 : ob S (N.fr j) <;> cases e2 : ob S (N.sc j)
  ·have e : N.hit S j = false := by simp [Net.hit, e1, e2]
   simp only [cnt, e1, e2, e, cond_false]
   -- no reader of the page is in the set
   rcases h3 with h3 | ⟨T, t1, t2, t3⟩
   ·-- as1 much as1 can be: the page itself, or a reader
    by_cases hc : n = C j
    ·omega
    ·have h4 := (Net.le_alone.1 h1).1
     obtain ⟨i, hi, hri⟩ : ∃ i, N.by j i = true ∧ R i = n := by
      refine Classical.byContradiction fun hno => ?_
      have : n + 1 ≤ N.alone R C j := Net.le_alone.2 ⟨by omega, fun i hi => by
       have q1 := (Net.le_alone.1 h1).2 i hi
       have q2 : R i ≠ n := fun q => hno ⟨i, hi, q⟩
       omega⟩
      omega
     -- the set with that reader
     have h5 := Net.most_le (R := R) (C := C) hN (fun k => S k || decide (k = i))
     have h6 : N.f R C (fun k => S k || decide (k = i)) ≤ N.f R C S + R i - C j := by
      have g1 : sm N.nr (fun k => bif (S k || decide (k = i)) then R k else 0) ≤ sm N.nr (fun k => bif S k then R k else 0) + R i := by
       have := tg (hN.by_lt hi) (R i)
       rw [← this, ← qs]
       refine pm fun k hk => ?_
       have := hR k hk
       by_cases q : k = i
       ·subst q; cases S k <;> simp <;> omega
       ·cases S k <;> simp [q]
      have g2 : sm N.np (fun k => bif N.hit (fun k => S k || decide (k = i)) k then 0 else C k) ≤ sm N.np (fun k => bif N.hit S k then 0 else C k) - C j := by
       have := tg hj (C j)
       rw [← this, ← uk]
       refine pm fun k hk => ?_
       have hck := hC k hk
       have mono : N.hit S k = true → N.hit (fun k => S k || decide (k = i)) k = true := fun q => by
        obtain ⟨x, x1, x2⟩ := Net.hit_iff.1 q
        exact Net.hit_iff.2 ⟨x, x1, by simp [x2]⟩
       by_cases q : k = j
       ·subst q
        rw [show N.hit (fun k => S k || decide (k = i)) k = true from Net.hit_iff.2 ⟨i, hi, by simp⟩, e]
        simp
       ·rw [decide_eq_false q]
        cases q1 : N.hit S k
        ·cases N.hit (fun k => S k || decide (k = i)) k <;> simp <;> omega
        ·rw [mono q1]; simp
      unfold Net.f
      dsimp only
      omega
     omega
   ·-- crossed with a set that has both
    have hx := Net.cross (R := R) (C := fk C j) hN (fun k hk => by unfold fk; cases decide (k = j) <;> simp; exact hC k hk) S T
    have hsub : ∀ U : Nat → Bool, N.f R (fk C j) U = N.f R C U - (bif N.hit U j then 0 else C j) := fun U => by
     have := Net.f_less (R := R) (C := C) hN hj 0 U
     have e0 : N.lessR R j 0 = R := by funext i; unfold Net.lessR; cases N.by j i <;> simp
     rw [e0] at this
     rw [this]
     unfold cnt
     cases ob U (N.fr j) <;> cases ob U (N.sc j) <;> simp
    rw [hsub, hsub, hsub, hsub, e, show N.hit T j = true by simp [Net.hit, t1]] at hx
    obtain ⟨a, ha⟩ : ∃ a, N.fr j = some a := by cases q : N.fr j with
     | none => rw [q] at t1; cases t1
     | some a => exact ⟨a, rfl⟩
    obtain ⟨b, hb⟩ : ∃ b, N.sc j = some b := by cases q : N.sc j with
     | none => rw [q] at t2; cases t2
     | some b => exact ⟨b, rfl⟩
    rw [ha] at t1
    rw [hb] at t2
    have hA : N.hit (o7 N.nF S T) j = true := by
     simp only [Net.hit, ha, ob, o7, decide_eq_true (hN.fr j a ha), cond_true]
     rw [show T a = true from t1]; simp
    have hB : N.hit (o6 N.nF S T) j = true := by
     have := hN.sc j b hb
     simp only [Net.hit, hb, ob, o6, decide_eq_false (show ¬ b < N.nF by omega), cond_false]
     rw [show T b = true from t2]; simp
    rw [hA, hB] at hx
    simp only [cond_true, cond_false] at hx
    have q1 := Net.most_le (R := R) (C := C) hN (o7 N.nF S T)
    have q2 := Net.most_le (R := R) (C := C) hN (o6 N.nF S T)
    omega
  ·have e : N.hit S j = true := by simp [Net.hit, e2]
   simp only [cnt, e1, e2, e, cond_false, cond_true]
   omega
  ·have e : N.hit S j = true := by simp [Net.hit, e1]
   simp only [cnt, e1, e2, e, cond_false, cond_true]
   omega
  ·have e : N.hit S j = true := by simp [Net.hit, e1]
   simp only [cnt, e1, e2, e, cond_true]
   have := h2 S e1 e2
   omega
 by_cases hb : ∀ S, ob S (N.fr j) = true → ob S (N.sc j) = true → N.most R C ≤ N.f R C S - N.alone R C j
 ·exact ⟨_, hal, Int.le_refl _, key _ hal (Int.le_refl _) hb (.inl rfl)⟩
 ·-- the vd of those that have both
  have : ∃ m : Int, (∃ S, ob S (N.fr j) = true ∧ ob S (N.sc j) = true ∧ N.f R C S = m) ∧ ∀ S, ob S (N.fr j) = true → ob S (N.sc j) = true → m ≤ N.f R C S := by
   obtain ⟨S0, s1, s2⟩ : ∃ S, ob S (N.fr j) = true ∧ ob S (N.sc j) = true := by
    refine Classical.byContradiction fun hno => hb fun S h1 h2 => absurd ⟨S, h1, h2⟩ hno
   have hlow : ∀ S, ob S (N.fr j) = true → ob S (N.sc j) = true → N.most R C ≤ N.f R C S := fun S _ _ => Net.most_le hN S
   generalize hd : (N.f R C S0 - N.most R C).toNat = d
   induction d using Nat.strongRecOn generalizing S0 with
   | _ d ih =>
    by_cases hmin : ∀ S, ob S (N.fr j) = true → ob S (N.sc j) = true → N.f R C S0 ≤ N.f R C S
    ·exact ⟨_, ⟨S0, s1, s2, rfl⟩, hmin⟩
    ·obtain ⟨S1, hS1⟩ := Classical.not_forall.1 hmin
     obtain ⟨t1, hS2⟩ := Classical.not_imp.1 hS1
     obtain ⟨t2, hS3⟩ := Classical.not_imp.1 hS2
     have hl1 := hlow S1 t1 t2
     have hl0 := hlow S0 s1 s2
     exact ih _ (by omega) S1 t1 t2 rfl
  obtain ⟨m, ⟨S, q1, q2, q3⟩, q4⟩ := this
  have hm := Net.most_le (R := R) (C := C) hN S
  have hlt : m - N.most R C < N.alone R C j := by
   refine Classical.byContradiction fun hno => hb fun T t1 t2 => ?_
   have := q4 T t1 t2
   omega
  exact ⟨m - N.most R C, by omega, by omega, key _ (by omega) (by omega) (fun T t1 t2 => by have := q4 T t1 t2; omega) (.inr ⟨S, q1, q2, by omega⟩)⟩
end
end Go.AB
namespace Go.PB
structure bn where
 id : Int
 miss : Int
 deriving DecidableEq
structure ak where
 fr : Int
 to : Int
 fst : Int
 snd : Int
 found : List PlaceD
 well : List PlaceD
 deriving DecidableEq
structure ah where
 text : aj
 firsts : List bn
 seconds : List bn
 pages : List ak
 deriving DecidableEq
/-- proofs at work -/
structure cr where
 p : ah
 words : List Int
 all : List (List PlaceD)
 both : List (List PlaceD)
structure bq where
 lo : Int
 hi : Int
 deriving DecidableEq
end Go.PB
namespace Go.AB
open Go Go.RowKit
open Go.AB.Enc (cells)
open Go.PB (ay aj PlaceD bg bi bh bn ak ah cr bq)
instance : Enc bn := ⟨fun x => [.v (.int .i64 x.id), .v (.int .i64 x.miss)], 2, fun _ => rfl, fun m x c h => by
 simp only [List.mem_cons, List.not_mem_nil, or_false] at h; rcases h with rfl | rfl <;> exact .v, fun x c h => by
 simp only [List.mem_cons, List.not_mem_nil, or_false] at h; rcases h with rfl | rfl <;> rfl⟩
instance : Enc bq := ⟨fun x => [.v (.int .i64 x.lo), .v (.int .i64 x.hi)], 2, fun _ => rfl, fun m x c h => by
 simp only [List.mem_cons, List.not_mem_nil, or_false] at h; rcases h with rfl | rfl <;> exact .v, fun x c h => by
 simp only [List.mem_cons, List.not_mem_nil, or_false] at h; rcases h with rfl | rfl <;> rfl⟩
instance : Enc ak := ⟨fun x => [.v (.int .i64 x.fr), .v (.int .i64 x.to), .v (.int .i64 x.fst), .v (.int .i64 x.snd), lst x.found, lst x.well], 6, fun _ => rfl, fun m x c h => by
 simp only [List.mem_cons, List.not_mem_nil, or_false] at h
 rcases h with rfl | rfl | rfl | rfl | rfl | rfl
 ·exact .v
 ·exact .v
 ·exact .v
 ·exact .v
 ·exact bv m _
 ·exact bv m _, fun x c h => by
 simp only [List.mem_cons, List.not_mem_nil, or_false] at h; rcases h with rfl | rfl | rfl | rfl | rfl | rfl <;> rfl⟩
instance : Enc ah := ⟨fun x => [lst x.text, lst x.firsts, lst x.seconds, lst x.pages], 4, fun _ => rfl, fun m x c h => by
 simp only [List.mem_cons, List.not_mem_nil, or_false] at h
 rcases h with rfl | rfl | rfl | rfl
 ·exact bv m _
 ·exact bv m _
 ·exact bv m _
 ·exact bv m _, fun x c h => by
 simp only [List.mem_cons, List.not_mem_nil, or_false] at h; rcases h with rfl | rfl | rfl | rfl <;> rfl⟩
/-! ### Lines of a text -/
/-- the number of a chapter's first line -/
def gq (t : aj) (k : Nat) : Nat := ((t.take k).map fun c => c.lines.length).sum
theorem uet (t : aj) : gq t 0 = 0 := by simp [gq]
theorem wh {t : aj} {k : Nat} {c : ay} (h : t[k]? = some c) : gq t (k + 1) = gq t k + c.lines.length := by
 unfold gq
 rw [List.take_add_one, h]
 simp
def ox (t : aj) : Nat := gq t t.length
/-- the number of the line of a place -/
def rg (t : aj) (q : PlaceD) : Int := q.ln + (gq t q.ch.toNat : Int)
def dw (t : aj) (x : ak) (q : PlaceD) : Bool := inB (rg t q) x.fr x.to
/-! ### Valid proofs -/
def pd (a b : PlaceD) : Bool := decide (f5 (dn a) (dn b) < 0)
/-- a place of a list may stand where it does -/
def kh (t : aj) (x : ak) (l : List PlaceD) (i : Nat) : Bool := match l[i]? with
 | none => true
 | some q => gj t q && dw t x q && (decide (i = 0) || match l[i - 1]? with | none => true | some a => pd a q)
def el (t : aj) (x : ak) (l : List PlaceD) (n : Nat) : Bool := (List.range n).all (kh t x l)
theorem iw (t : aj) (x : ak) (l : List PlaceD) (n : Nat) : el t x l (n + 1) = (el t x l n && kh t x l n) := by
 unfold el
 rw [List.range_succ, List.all_append]
 simp
def i6 (t : aj) (x : ak) (r : Int) (l : List PlaceD) : Bool := (decide (0 ≤ r) || decide (l = [])) && el t x l l.length
def io (r : bn) : Bool := inB r.id 0 9999 && inB r.miss 0 90
def kz (p : ah) : Bool := decide (p.firsts.length ≤ 3) && decide (p.seconds.length ≤ 3) && (p.firsts ++ p.seconds).all io && decide ((p.firsts ++ p.seconds).map (·.id)).Nodup
def n5 (p : ah) (last : Int) (x : ak) : Bool := decide (last < x.fr) && decide (x.fr ≤ x.to) && decide (x.to < (ox p.text : Int)) && inB x.fst (-1) ((p.firsts.length : Int) - 1) && i6 p.text x x.fst x.found && inB x.snd (-1) ((p.seconds.length : Int) - 1) && i6 p.text x x.snd x.well
/-- the last line ahead of a page -/
def jc (l : List ak) : Nat → Int
 | 0 => -1
 | i + 1 => match l[i]? with | some x => x.to | none => -1
def w6 (p : ah) (i : Nat) : Bool := match p.pages[i]? with
 | none => true
 | some x => n5 p (jc p.pages i) x
def tm (p : ah) (n : Nat) : Bool := (List.range n).all (w6 p)
theorem uf8 (p : ah) (n : Nat) : tm p (n + 1) = (tm p n && w6 p n) := by
 unfold tm
 rw [List.range_succ, List.all_append]
 simp
def gz (p : ah) : Bool := kz p && decide (p.pages.length ≤ 8) && tm p p.pages.length
def dc (p : ah) : Int := bif ed p.text then (bif gz p then 0 else 90) else 10
/-! ### What is found on a page -/
def d7 (t : aj) (x : ak) : List PlaceD := (av t).filter fun q => decide (q ∈ x.found) || decide (q ∈ x.well)
def er (t : aj) (x : ak) : List PlaceD := (av t).filter fun q => decide (q ∈ x.found) && decide (q ∈ x.well)
def fh (t : aj) (x : ak) : Nat := ((av t).filter (dw t x)).length
/-! ### Bounds of readers -/
def cn (b : Bool) (x : ak) : Int := bif b then x.snd else x.fst
def d8 (b : Bool) (x : ak) : List PlaceD := bif b then x.well else x.found
def cy (p : ah) (b : Bool) : List bn := bif b then p.seconds else p.firsts
def cg (l : List ak) (g : ak → Nat) : Nat := (l.map g).sum
theorem ot {l : List ak} {k : Nat} {x : ak} {g : ak → Nat} (h : l[k]? = some x) : cg (l.take (k + 1)) g = cg (l.take k) g + g x := by
 unfold cg
 rw [List.take_add_one, h]
 simp
def du (b : Bool) (i : Int) (x : ak) : Nat := bif decide (cn b x = i) then (d8 b x).length else 0
def eh (t : aj) (b : Bool) (i : Int) (x : ak) : Nat := bif decide (cn b x = i) then (d7 t x).length else 0
def ly (p : ah) (b : Bool) (i : Nat) : Int := match (cy p b)[i]? with | some r => r.miss | none => 0
def je (p : ah) (b : Bool) (i : Nat) : Int := 100 * (cg p.pages (du b i) : Int) / (100 - ly p b i)
def ne (p : ah) (b : Bool) (i : Nat) : Int := je p b i - (cg p.pages (eh p.text b i) : Int)
/-! ### What may remain -/
def co (p : ah) : Nat := p.firsts.length + p.seconds.length
def dh (p : ah) (i : Nat) : Int := bif decide (i < p.firsts.length) then ne p false i else ne p true (i - p.firsts.length)
def yg (t : aj) (x : ak) : Int := (fh t x : Int) - ((d7 t x).length : Int)
def j6 (p : ah) : Bool := (List.range (co p)).all fun i => decide (0 ≤ dh p i)
def bx (p : ah) : Net where
 nF := p.firsts.length
 nr := co p
 np := p.pages.length
 fr := fun j => match p.pages[j]? with | some x => (bif decide (0 ≤ x.fst) then some x.fst.toNat else none) | none => none
 sc := fun j => match p.pages[j]? with | some x => (bif decide (0 ≤ x.snd) then some (p.firsts.length + x.snd.toNat) else none) | none => none
def gi (l : List Int) (i : Nat) : Int := (l[i]?).getD 0
end Go.AB
namespace Go.AB
/-- so much on a page is the most of what loses nothing -/
structure Net.Pick (N : Net) (R C : Nat → Int) (j : Nat) (n : Int) : Prop where
 nn : 0 ≤ n
 le : n ≤ N.alone R C j
 ok : N.most R C ≤ n + N.most (N.lessR R j n) (fk C j)
 max : ∀ m, n < m → m ≤ N.alone R C j → ¬ N.most R C ≤ m + N.most (N.lessR R j m) (fk C j)
section
variable {N : Net} {R C : Nat → Int}
theorem Net.Pick.uniq {j : Nat} {n m : Int} (h : N.Pick R C j n) (k : N.Pick R C j m) : n = m := by
 rcases Int.lt_trichotomy n m with q | q | q
 ·exact absurd k.ok (h.max m q k.le)
 ·exact q
 ·exact absurd h.ok (k.max n q h.le)
theorem Net.pick_ex (hN : N.Ok) (hR : ∀ i, i < N.nr → 0 ≤ R i) (hC : ∀ j, j < N.np → 0 ≤ C j) {j : Nat} (hj : j < N.np) : ∃ n, N.Pick R C j n := by
 obtain ⟨n, h1, h2, h3⟩ := Net.greedy hN hR hC hj
 generalize hd : (N.alone R C j - n).toNat = d
 induction d using Nat.strongRecOn generalizing n with
 | _ d ih =>
  by_cases hmax : ∀ m, n < m → m ≤ N.alone R C j → ¬ N.most R C ≤ m + N.most (N.lessR R j m) (fk C j)
  ·exact ⟨n, h1, h2, h3, hmax⟩
  ·obtain ⟨m, hm⟩ := Classical.not_forall.1 hmax
   obtain ⟨q1, hm⟩ := Classical.not_imp.1 hm
   obtain ⟨q2, hm⟩ := Classical.not_imp.1 hm
   exact ih _ (by omega) m (by omega) q2 (Classical.not_not.1 hm) rfl
open Classical in
noncomputable def Net.pick (N : Net) (R C : Nat → Int) (j : Nat) : Int := if h : ∃ n, N.Pick R C j n then h.choose else 0
theorem Net.pick_spec {j : Nat} (h : ∃ n, N.Pick R C j n) : N.Pick R C j (N.pick R C j) := by
 unfold Net.pick
 rw [dif_pos h]
 exact h.choose_spec
theorem Net.pick_eq {j : Nat} {n : Int} (h : N.Pick R C j n) : N.pick R C j = n := (Net.pick_spec ⟨n, h⟩).uniq h
/-- what may remain ahead of a page, by the worst truth -/
noncomputable def Net.room (N : Net) (R C : Nat → Int) : Nat → (Nat → Int) × (Nat → Int)
 | 0 => (R, C)
 | i + 1 => (N.lessR (N.room R C i).1 i (N.pick (N.room R C i).1 (N.room R C i).2 i), fk (N.room R C i).2 i)
/-- the worst truth -/
noncomputable def Net.worst (N : Net) (R C : Nat → Int) (i : Nat) : Int := N.pick (N.room R C i).1 (N.room R C i).2 i
theorem Net.room_succ (i : Nat) : N.room R C (i + 1) = (N.lessR (N.room R C i).1 i (N.worst R C i), fk (N.room R C i).2 i) := rfl
structure Net.RoomOk (N : Net) (R C : Nat → Int) (i : Nat) : Prop where
 rnn : ∀ r, r < N.nr → 0 ≤ (N.room R C i).1 r
 cnn : ∀ j, j < N.np → 0 ≤ (N.room R C i).2 j
 all : N.most (N.room R C i).1 (N.room R C i).2 = N.most R C - sm i (N.worst R C)
 caps : ∀ j, (N.room R C i).2 j = bif decide (j < i) then 0 else C j
 rds : ∀ r, (N.room R C i).1 r = R r - sm i (fun j => bif N.by j r then N.worst R C j else 0)
theorem Net.room_ok (hN : N.Ok) (hR : ∀ i, i < N.nr → 0 ≤ R i) (hC : ∀ j, j < N.np → 0 ≤ C j) : ∀ i, i ≤ N.np → N.RoomOk R C i
 | 0, _ => ⟨hR, hC, by simp [Net.room, sm], fun j => by simp [Net.room], fun r => by simp [Net.room, sm]⟩
 | i + 1, hi => by
  have h := Net.room_ok hN hR hC i (by omega)
  have hp : N.Pick (N.room R C i).1 (N.room R C i).2 i (N.worst R C i) := Net.pick_spec (Net.pick_ex hN h.rnn h.cnn (by omega))
  have hal := Net.le_alone.1 hp.le
  have hle := Net.less_le (R := (N.room R C i).1) (C := (N.room R C i).2) hN (show i < N.np by omega) hp.nn hal.1
  have hok := hp.ok
  refine ⟨fun r hr => ?_, fun j hj => ?_, ?_, fun j => ?_, fun r => ?_⟩
  ·rw [Net.room_succ]
   show 0 ≤ N.lessR _ i _ r
   unfold Net.lessR
   cases hb : N.by i r
   ·exact h.rnn r hr
   ·have := hal.2 r hb
    simp only [cond_true]; omega
  ·rw [Net.room_succ]
   show 0 ≤ fk _ i j
   unfold fk
   cases decide (j = i)
   ·exact h.cnn j hj
   ·exact Int.le_refl _
  ·rw [Net.room_succ]
   have := h.all
   simp only [sm]
   show N.most (N.lessR _ i _) (fk _ i) = _
   omega
  ·rw [Net.room_succ]
   show fk _ i j = _
   unfold fk
   rw [h.caps j]
   by_cases e : j = i
   ·subst e; simp
   ·rw [decide_eq_false e, cond_false, show decide (j < i + 1) = decide (j < i) by rw [decide_eq_decide]; omega]
  ·rw [Net.room_succ]
   show N.lessR _ i _ r = _
   unfold Net.lessR
   rw [h.rds r]
   simp only [sm]
   cases N.by i r <;> simp <;> omega
theorem Net.worst_pick (hN : N.Ok) (hR : ∀ i, i < N.nr → 0 ≤ R i) (hC : ∀ j, j < N.np → 0 ≤ C j) {i : Nat} (hi : i < N.np) : N.Pick (N.room R C i).1 (N.room R C i).2 i (N.worst R C i) := by
 have h := Net.room_ok hN hR hC i (by omega)
 exact Net.pick_spec (Net.pick_ex hN h.rnn h.cnn hi)
theorem Net.feas_alone {y : Nat → Int} (hN : N.Ok) (hy : N.Feas R C y) {j : Nat} (hj : j < N.np) : y j ≤ N.alone R C j := Net.le_alone.2 ⟨(hy.page j hj).2, fun i hi => by
 have h1 := hy.rd i (hN.by_lt hi)
 have h2 := uez (n := N.np) (k := j) (g := fun k => bif N.by k i then y k else 0) hj fun k hk => by
  cases N.by k i
  ·exact Int.le_refl _
  ·exact (hy.page k hk).1
 rw [hi] at h2
 exact Int.le_trans h2 h1⟩
/-- no truth has more that remains -/
theorem Net.feas_most (hN : N.Ok) {y : Nat → Int} (hy : N.Feas R C y) : sm N.np y ≤ N.most R C := by
 obtain ⟨S, hS⟩ := N.most_get R C
 rw [hS]
 exact hy.le hN S
end
end Go.AB
namespace Go.AB
open Go Go.RowKit
open Go.AB.Enc (cells)
open Go.PB (ay aj PlaceD bg bi bh bn ak ah cr bq)
theorem y6 (g : ak → Nat) : ∀ l : List ak, ((cg l g : Nat) : Int) = sm l.length (fun j => match l[j]? with | some x => (g x : Int) | none => 0) := by
 intro l
 have key : ∀ k, k ≤ l.length → ((cg (l.take k) g : Nat) : Int) = sm k (fun j => match l[j]? with | some x => (g x : Int) | none => 0) := by
  intro k
  induction k with
  | zero => intro _; rfl
  | succ k ih =>
   intro hk
   have hx : l[k]? = some l[k] := List.getElem?_eq_getElem (by omega)
   rw [ot hx]
   simp only [sm, hx]
   have := ih (by omega)
   omega
 have := key l.length (Nat.le_refl _)
 rwa [List.take_length] at this
/-! ### What valid proofs are -/
structure et (p : ah) : Prop where
 text : ed p.text = true
 nf : p.firsts.length ≤ 3
 ns : p.seconds.length ≤ 3
 np : p.pages.length ≤ 8
 rd : ∀ r ∈ p.firsts ++ p.seconds, io r = true
 page : ∀ (j : Nat) (x : ak), p.pages[j]? = some x → n5 p (jc p.pages j) x = true
theorem nk {p : ah} (h : dc p = 0) : et p ∧ gz p = true := by
 unfold dc at h
 cases ht : ed p.text
 ·rw [ht] at h; simp at h
 ·cases hp : gz p
  ·rw [ht, hp] at h; simp at h
  ·refine ⟨?_, rfl⟩
   unfold gz kz at hp
   simp only [Bool.and_eq_true, decide_eq_true_eq] at hp
   obtain ⟨⟨⟨⟨⟨h1, h2⟩, h3⟩, _⟩, h5⟩, h6⟩ := hp
   refine ⟨ht, h1, h2, h5, fun r hr => List.all_eq_true.1 h3 r hr, fun j x hx => ?_⟩
   have hj := (List.getElem?_eq_some_iff.1 hx).1
   have := List.all_eq_true.1 h6 j (List.mem_range.2 hj)
   unfold w6 at this
   rw [hx] at this
   exact this
structure qk (p : ah) (last : Int) (x : ak) : Prop where
 fr : last < x.fr
 to : x.fr ≤ x.to
 lt : x.to < (ox p.text : Int)
 fst : -1 ≤ x.fst ∧ x.fst ≤ (p.firsts.length : Int) - 1
 snd : -1 ≤ x.snd ∧ x.snd ≤ (p.seconds.length : Int) - 1
 found : i6 p.text x x.fst x.found = true
 well : i6 p.text x x.snd x.well = true
theorem pageB_true {p : ah} {last : Int} {x : ak} : n5 p last x = true ↔ qk p last x := by
 unfold n5
 simp only [Bool.and_eq_true, decide_eq_true_eq, inB_true]
 exact ⟨fun ⟨⟨⟨⟨⟨⟨h1, h2⟩, h3⟩, h4⟩, h5⟩, h6⟩, h7⟩ => ⟨h1, h2, h3, h4, h6, h5, h7⟩, fun h => ⟨⟨⟨⟨⟨⟨h.fr, h.to⟩, h.lt⟩, h.fst⟩, h.found⟩, h.snd⟩, h.well⟩⟩
theorem o4 {t : aj} {x : ak} {r : Int} {l : List PlaceD} (h : i6 t x r l = true) {q : PlaceD} (hq : q ∈ l) : gj t q = true ∧ dw t x q = true := by
 unfold i6 at h
 rw [Bool.and_eq_true] at h
 obtain ⟨i, hi⟩ := List.getElem?_of_mem hq
 have := List.all_eq_true.1 h.2 i (List.mem_range.2 (List.getElem?_eq_some_iff.1 hi).1)
 unfold kh at this
 rw [hi] at this
 simp only [Bool.and_eq_true] at this
 exact this.1
theorem usi {t : aj} {x : ak} {r : Int} {l : List PlaceD} (h : i6 t x r l = true) {i : Nat} {a q : PlaceD} (ha : l[i]? = some a) (hq : l[i + 1]? = some q) : f5 (dn a) (dn q) < 0 := by
 unfold i6 at h
 rw [Bool.and_eq_true] at h
 have := List.all_eq_true.1 h.2 (i + 1) (List.mem_range.2 (List.getElem?_eq_some_iff.1 hq).1)
 unfold kh at this
 rw [hq, Nat.add_sub_cancel, ha] at this
 have h9 : (gj t q = true ∧ dw t x q = true) ∧ f5 (dn a) (dn q) < 0 := by simpa [pd] using this
 exact h9.2
theorem ujy {a b c : PlaceD} (h : f5 (dn a) (dn b) < 0) (k : f5 (dn b) (dn c) < 0) : f5 (dn a) (dn c) < 0 := by
 rw [qf (by rfl)] at h k ⊢
 exact u6 h k
theorem udk (a : PlaceD) : ¬ f5 (dn a) (dn a) < 0 := by
 rw [qf (by rfl)]
 exact si _
theorem umy {l : List PlaceD} (h : ∀ (i : Nat) (a q : PlaceD), l[i]? = some a → l[i + 1]? = some q → f5 (dn a) (dn q) < 0) : l.Pairwise fun a b => f5 (dn a) (dn b) < 0 := by
 rw [List.pairwise_iff_getElem]
 intro i j hi hj hij
 have key : ∀ d (hd : i + 1 + d < l.length), f5 (dn l[i]) (dn l[i + 1 + d]) < 0 := by
  intro d
  induction d with
  | zero => intro hd; exact h i _ _ (List.getElem?_eq_getElem hi) (List.getElem?_eq_getElem hd)
  | succ d ih =>
   intro hd
   exact ujy (ih (by omega)) (h (i + 1 + d) _ _ (List.getElem?_eq_getElem (by omega)) (List.getElem?_eq_getElem hd))
 have := key (j - (i + 1)) (by omega)
 simpa [show i + 1 + (j - (i + 1)) = j by omega] using this
theorem uap {t : aj} {x : ak} {r : Int} {l : List PlaceD} (h : i6 t x r l = true) : l.Pairwise fun a b => f5 (dn a) (dn b) < 0 := umy fun _ _ _ ha hq => usi h ha hq
/-- lists in order, with the same places -/
theorem za : ∀ {l m : List PlaceD}, l.Pairwise (fun a b => f5 (dn a) (dn b) < 0) → m.Pairwise (fun a b => f5 (dn a) (dn b) < 0) → (∀ q, q ∈ l ↔ q ∈ m) → l = m
 | [], [], _, _, _ => rfl
 | [], b :: m, _, _, h => by have := (h b).2 (List.mem_cons_self ..); cases this
 | a :: l, [], _, _, h => by have := (h a).1 (List.mem_cons_self ..); cases this
 | a :: l, b :: m, h1, h2, h => by
  rw [List.pairwise_cons] at h1 h2
  have hab : a = b := by
   have p1 := (h a).1 (List.mem_cons_self ..)
   have p2 := (h b).2 (List.mem_cons_self ..)
   rw [List.mem_cons] at p1 p2
   rcases p1 with rfl | p1
   ·rfl
   ·rcases p2 with rfl | p2
    ·rfl
    ·exact absurd (ujy (h1.1 b p2) (h2.1 a p1)) (udk a)
  subst hab
  rw [za h1.2 h2.2 fun q => ?_]
  constructor
  ·intro hq
   have := (h q).1 (List.mem_cons_of_mem _ hq)
   rw [List.mem_cons] at this
   rcases this with rfl | this
   ·exact absurd (h1.1 q hq) (udk q)
   ·exact this
  ·intro hq
   have := (h q).2 (List.mem_cons_of_mem _ hq)
   rw [List.mem_cons] at this
   rcases this with rfl | this
   ·exact absurd (h2.1 q hq) (udk q)
   ·exact this
/-! ### Pages between readers -/
def pt (p : ah) (j : Nat) (g : ak → Int) : Int := match p.pages[j]? with | some x => g x | none => 0
theorem pr {p : ah} {j : Nat} {x : ak} (h : p.pages[j]? = some x) (g : ak → Int) : pt p j g = g x := by unfold pt; rw [h]
def d9 (p : ah) (j : Nat) : Int := pt p j (yg p.text)
def fb (p : ah) (j : Nat) : Int := pt p j fun x => ((d7 p.text x).length : Int)
def mf (p : ah) (j : Nat) : Int := pt p j fun x => (fh p.text x : Int)
theorem uck {p : ah} (h : et p) : (bx p).Ok := by
 refine ⟨Nat.le_add_right _ _, fun j i hi => ?_, fun j i hi => ?_⟩
 ·simp only [bx] at hi ⊢
  cases hx : p.pages[j]? with
  | none => rw [hx] at hi; cases hi
  | some x =>
   rw [hx] at hi
   have hp := (pageB_true.1 (h.page j x hx)).fst
   dsimp only at hi
   by_cases q : 0 ≤ x.fst
   ·rw [decide_eq_true q, cond_true, Option.some.injEq] at hi
    omega
   ·rw [decide_eq_false q] at hi; cases hi
 ·simp only [bx, co] at hi ⊢
  cases hx : p.pages[j]? with
  | none => rw [hx] at hi; cases hi
  | some x =>
   rw [hx] at hi
   have hp := (pageB_true.1 (h.page j x hx)).snd
   dsimp only at hi
   by_cases q : 0 ≤ x.snd
   ·rw [decide_eq_true q, cond_true, Option.some.injEq] at hi
    omega
   ·rw [decide_eq_false q] at hi; cases hi
/-- the readers of a page, as the program lists them -/
def eg (p : ah) (x : ak) : List Int := (bif decide (0 ≤ x.fst) then [x.fst] else []) ++ (bif decide (0 ≤ x.snd) then [(p.firsts.length : Int) + x.snd] else [])
theorem urz {p : ah} {j : Nat} {x : ak} (hx : p.pages[j]? = some x) (S : Nat → Bool) : (bx p).hit S j = (eg p x).any fun k => S k.toNat := by
 simp only [Net.hit, bx, hx, eg, List.any_append]
 congr 1
 ·cases decide (0 ≤ x.fst) <;> simp [ob]
 ·by_cases q : 0 ≤ x.snd
  ·simp [q, ob, show ((p.firsts.length : Int) + x.snd).toNat = p.firsts.length + x.snd.toNat by omega]
  ·simp [q, ob]
theorem sw {p : ah} (h : et p) {j : Nat} {x : ak} (hx : p.pages[j]? = some x) (i : Nat) : (bx p).by j i = bif decide (i < p.firsts.length) then decide (cn false x = (i : Int)) else decide (cn true x = ((i - p.firsts.length : Nat) : Int)) := by
 have hp := pageB_true.1 (h.page j x hx)
 have h1 := hp.fst
 have h2 := hp.snd
 simp only [Net.by, bx, hx]
 rw [Bool.eq_iff_iff]
 by_cases hi : i < p.firsts.length
 ·rw [decide_eq_true hi, cond_true, Bool.or_eq_true, decide_eq_true_eq, decide_eq_true_eq, decide_eq_true_eq]
  show _ ↔ x.fst = (i : Int)
  constructor
  ·rintro (q | q)
   ·by_cases z : 0 ≤ x.fst
    ·rw [decide_eq_true z, cond_true, Option.some.injEq] at q; omega
    ·rw [decide_eq_false z] at q; cases q
   ·by_cases z : 0 ≤ x.snd
    ·rw [decide_eq_true z, cond_true, Option.some.injEq] at q; omega
    ·rw [decide_eq_false z] at q; cases q
  ·intro q
   left
   rw [decide_eq_true (show 0 ≤ x.fst by omega), cond_true, Option.some.injEq]
   omega
 ·rw [decide_eq_false hi, cond_false, Bool.or_eq_true, decide_eq_true_eq, decide_eq_true_eq, decide_eq_true_eq]
  show _ ↔ x.snd = ((i - p.firsts.length : Nat) : Int)
  constructor
  ·rintro (q | q)
   ·by_cases z : 0 ≤ x.fst
    ·rw [decide_eq_true z, cond_true, Option.some.injEq] at q; omega
    ·rw [decide_eq_false z] at q; cases q
   ·by_cases z : 0 ≤ x.snd
    ·rw [decide_eq_true z, cond_true, Option.some.injEq] at q; omega
    ·rw [decide_eq_false z] at q; cases q
  ·intro q
   right
   rw [decide_eq_true (show 0 ≤ x.snd by omega), cond_true, Option.some.injEq]
   omega
theorem ur9 {p : ah} {last : Int} {x : ak} (h : qk p last x) : (d7 p.text x).length ≤ fh p.text x := by
 unfold d7 fh
 rw [← List.countP_eq_length_filter, ← List.countP_eq_length_filter]
 refine List.countP_mono_left fun q _ hq => ?_
 rw [Bool.or_eq_true, decide_eq_true_eq, decide_eq_true_eq] at hq
 rcases hq with hq | hq
 ·exact (o4 h.found hq).2
 ·exact (o4 h.well hq).2
theorem udh {p : ah} (h : et p) (j : Nat) : 0 ≤ d9 p j := by
 unfold d9 pt
 cases hx : p.pages[j]? with
 | none => exact Int.le_refl _
 | some x =>
  have := ur9 (pageB_true.1 (h.page j x hx))
  show 0 ≤ yg p.text x
  unfold yg
  omega
def l7 (p : ah) (i : Nat) : Int := bif decide (i < p.firsts.length) then je p false i else je p true (i - p.firsts.length)
/-- of the bound of a reader is left what is not told -/
theorem uhn {p : ah} (h : et p) (i : Nat) : dh p i = l7 p i - sm p.pages.length (fun j => bif (bx p).by j i then fb p j else 0) := by
 have key : ∀ (b : Bool) (k : Int), (∀ (j : Nat) (x : ak), p.pages[j]? = some x → (bx p).by j i = decide (cn b x = k)) → ((cg p.pages (eh p.text b k) : Nat) : Int) = sm p.pages.length (fun j => bif (bx p).by j i then fb p j else 0) := fun b k hb => by
  rw [y6]
  refine jv fun j hj => ?_
  have hx : p.pages[j]? = some p.pages[j] := List.getElem?_eq_getElem hj
  rw [hb j _ hx]
  unfold fb
  rw [pr hx, hx]
  dsimp only
  unfold eh
  cases decide (cn b p.pages[j] = k) <;> rfl
 unfold dh l7
 by_cases hi : i < p.firsts.length
 ·rw [decide_eq_true hi, cond_true, cond_true]
  unfold ne
  rw [key false i fun j x hx => by rw [sw h hx, decide_eq_true hi, cond_true]]
 ·rw [decide_eq_false hi, cond_false, cond_false]
  unfold ne
  rw [key true _ fun j x hx => by rw [sw h hx, decide_eq_false hi, cond_false]]
/-- errors on all pages that are a truth -/
def j5 (p : ah) (es : List Int) : Bool := decide (es.length = p.pages.length) && (List.range p.pages.length).all (fun j => inB (gi es j) (fb p j) (mf p j)) && (List.range (co p)).all fun i => decide (sm p.pages.length (fun j => bif (bx p).by j i then gi es j else 0) ≤ l7 p i)
theorem ul1 {p : ah} (h : et p) {es : List Int} : j5 p es = true ↔ es.length = p.pages.length ∧ (bx p).Feas (dh p) (d9 p) (fun j => gi es j - fb p j) := by
 unfold j5
 simp only [Bool.and_eq_true, decide_eq_true_eq, List.all_eq_true, List.mem_range, inB_true]
 have hcap : ∀ j, j < p.pages.length → d9 p j = mf p j - fb p j := fun j hj => by
  have hx : p.pages[j]? = some p.pages[j] := List.getElem?_eq_getElem hj
  unfold d9 mf fb
  rw [pr hx, pr hx, pr hx]
  rfl
 have hsub : ∀ i, sm p.pages.length (fun j => bif (bx p).by j i then gi es j - fb p j else 0) = sm p.pages.length (fun j => bif (bx p).by j i then gi es j else 0) - sm p.pages.length (fun j => bif (bx p).by j i then fb p j else 0) := fun i => by
  rw [← uk]
  exact jv fun j _ => by cases (bx p).by j i <;> simp
 constructor
 ·rintro ⟨⟨h1, h2⟩, h3⟩
  refine ⟨h1, fun j hj => ?_, fun i hi => ?_⟩
  ·have := h2 j hj
   have := hcap j hj
   omega
  ·have := h3 i hi
   have e := uhn h i
   have := hsub i
   show sm p.pages.length _ ≤ _
   omega
 ·rintro ⟨h1, h2⟩
  refine ⟨⟨h1, fun j hj => ?_⟩, fun i hi => ?_⟩
  ·have := h2.page j hj
   have := hcap j hj
   omega
  ·have q : sm p.pages.length (fun j => bif (bx p).by j i then gi es j - fb p j else 0) ≤ dh p i := h2.rd i hi
   have e := uhn h i
   have := hsub i
   omega
end Go.AB
namespace Go.AB
open Go Go.RowKit
open Go.AB.Enc (cells)
/-- the numbers of a set -/
def z7 (n s : Nat) : List Nat := (List.range n).filter fun i => s.testBit i
def ga (n s : Nat) : List Int := (z7 n s).map fun i : Nat => (i : Int)
theorem uhf (n s : Nat) : ga (n + 1) s = ga n s ++ (bif s.testBit n then [(n : Int)] else []) := by
 unfold ga z7
 rw [List.range_succ, List.filter_append, List.map_append]
 cases h : s.testBit n <;> simp [h]
theorem xl (n s : Nat) : (ga n s).length ≤ n := by
 unfold ga z7
 rw [List.length_map]
 have := List.length_filter_le (fun i => s.testBit i) (List.range n)
 rwa [List.length_range] at this
theorem membersL_mem {n s : Nat} {x : Int} : x ∈ ga n s ↔ ∃ i : Nat, x = (i : Int) ∧ i < n ∧ s.testBit i = true := by
 unfold ga z7
 simp only [List.mem_map, List.mem_filter, List.mem_range]
 exact ⟨fun ⟨i, ⟨h1, h2⟩, h3⟩ => ⟨i, h3.symm, h1, h2⟩, fun ⟨i, h3, h1, h2⟩ => ⟨i, ⟨h1, h2⟩, h3.symm⟩⟩
/-- the order of lists: shorter ones first, then by their numbers -/
def jo (a b : List Int) : Bool := decide (a.length < b.length) || (decide (a.length = b.length) && decide (f5 a b < 0))
theorem ujz {a b : List Int} : jo a b = true ↔ a.length < b.length ∨ (a.length = b.length ∧ ltW a b) := by
 unfold jo
 rw [Bool.or_eq_true, Bool.and_eq_true, decide_eq_true_eq, decide_eq_true_eq, decide_eq_true_eq]
 constructor
 ·rintro (h | ⟨h1, h2⟩)
  ·exact .inl h
  ·exact .inr ⟨h1, (qf h1).1 h2⟩
 ·rintro (h | ⟨h1, h2⟩)
  ·exact .inl h
  ·exact .inr ⟨h1, (qf h1).2 h2⟩
theorem uj0 (a : List Int) : jo a a = false := by
 rw [← Bool.not_eq_true, ujz]
 rintro (h | ⟨_, h⟩)
 ·omega
 ·exact si a h
theorem ut7 {a b c : List Int} (h : jo a b = true) (k : jo b c = true) : jo a c = true := by
 rw [ujz] at *
 rcases h with h | ⟨h1, h2⟩
 ·rcases k with k | ⟨k1, _⟩
  ·exact .inl (by omega)
  ·exact .inl (by omega)
 ·rcases k with k | ⟨k1, k2⟩
  ·exact .inl (by omega)
  ·exact .inr ⟨by omega, u6 h2 k2⟩
/-- what is found among the first sets -/
def ge (so : Nat → Bool) (n : Nat) : Nat → Option (List Int)
 | 0 => none
 | k + 1 => match ge so n k with
  | none => bif so k then some (ga n k) else none
  | some b => bif so k && jo (ga n k) b then some (ga n k) else some b
def qg (so : Nat → Bool) (n : Nat) : List Int := (ge so n (2 ^ n)).getD []
structure uu2 (so : Nat → Bool) (n k : Nat) (b : List Int) : Prop where
 get : ∃ s, s < k ∧ so s = true ∧ b = ga n s
 min : ∀ s, s < k → so s = true → jo (ga n s) b = false
theorem uaz (so : Nat → Bool) (n : Nat) : ∀ k, (ge so n k = none ∧ ∀ s, s < k → so s = false) ∨ ∃ b, ge so n k = some b ∧ uu2 so n k b
 | 0 => .inl ⟨rfl, fun s h => absurd h (Nat.not_lt_zero _)⟩
 | k + 1 => by
  rcases uaz so n k with ⟨h1, h2⟩ | ⟨b, h1, h2⟩
  ·simp only [ge, h1]
   cases hs : so k
   ·exact .inl ⟨rfl, fun s h => by
     by_cases e : s = k
     ·subst e; exact hs
     ·exact h2 s (by omega)⟩
   ·exact .inr ⟨_, rfl, ⟨k, by omega, hs, rfl⟩, fun s h hso => by
     by_cases e : s = k
     ·subst e; exact uj0 _
     ·rw [h2 s (by omega)] at hso; cases hso⟩
  ·simp only [ge, h1]
   right
   cases hs : so k && jo (ga n k) b
   ·refine ⟨b, rfl, ?_, fun s h hso => ?_⟩
    ·obtain ⟨s, q1, q2, q3⟩ := h2.get
     exact ⟨s, by omega, q2, q3⟩
    ·by_cases e : s = k
     ·subst e
      rw [hso, Bool.true_and] at hs
      exact hs
     ·exact h2.min s (by omega) hso
   ·rw [Bool.and_eq_true] at hs
    refine ⟨_, rfl, ⟨k, by omega, hs.1, rfl⟩, fun s h hso => ?_⟩
    by_cases e : s = k
    ·subst e; exact uj0 _
    ·rw [← Bool.not_eq_true]
     intro hb
     have := ut7 hb hs.2
     rw [h2.min s (by omega) hso] at this
     cases this
theorem ujx (so : Nat → Bool) (n : Nat) : (qg so n).length ≤ n := by
 unfold qg
 rcases uaz so n (2 ^ n) with ⟨h, _⟩ | ⟨b, h, k⟩
 ·rw [h]; exact Nat.zero_le _
 ·rw [h]
  obtain ⟨s, _, _, rfl⟩ := k.get
  exact xl n s
theorem ujw {so : Nat → Bool} {n k : Nat} (h : ge so n k = none) : ge so n (k + 1) = bif so k then some (ga n k) else none := by simp only [ge, h]
theorem udj {so : Nat → Bool} {n k : Nat} {b : List Int} (h : ge so n k = some b) : ge so n (k + 1) = bif so k && jo (ga n k) b then some (ga n k) else some b := by simp only [ge, h]
/-! ### Lists of numbers that are looked up -/
def cc (n : Nat) (R : Nat → Int) : List Int := (List.range n).map R
theorem jq (n : Nat) (R : Nat → Int) : (cc n R).length = n := by simp [cc]
theorem lv {n i : Nat} (R : Nat → Int) (h : i < n) : (cc n R)[i]? = some (R i) := by simp [cc, h]
theorem yz (n : Nat) (R : Nat → Int) : cc (n + 1) R = cc n R ++ [R n] := by
 unfold cc
 rw [List.range_succ, List.map_append]; rfl
theorem y4 {n i : Nat} (R : Nat → Int) (v : Int) (h : i < n) : (cc n R).set i v = cc n fun k => bif decide (k = i) then v else R k := by
 apply List.ext_getElem?
 intro k
 rw [List.getElem?_set, jq]
 by_cases hk : k < n
 ·rw [lv (fun k => bif decide (k = i) then v else R k) hk, lv R hk]
  by_cases e : i = k
  ·subst e; rw [if_pos rfl, if_pos h, decide_eq_true rfl]; rfl
  ·rw [if_neg e, decide_eq_false (Ne.symm e)]; rfl
 ·rw [List.getElem?_eq_none (by rw [jq]; omega)]
  rw [if_neg (by omega), List.getElem?_eq_none (by rw [jq]; omega)]
theorem ump {n i : Nat} (R : Nat → Int) (h : i < n) : gi (cc n R) i = R i := by unfold gi; rw [lv R h]; rfl
end Go.AB
namespace Go.AB
open Go Go.RowKit
open Go.AB.Enc (cells)
open Go.PB (ay aj PlaceD bg bi bh bn ak ah cr bq)
/-! ### All places are in order -/
theorem ukf (t : aj) : (av t).Pairwise fun a b => f5 (dn a) (dn b) < 0 := by
 unfold av
 rw [List.pairwise_map, List.pairwise_iff_getElem]
 intro i j hi hj hij
 have h1 := List.getElem?_eq_getElem hi
 have h2 := List.getElem?_eq_getElem hj
 have h := uqc (ukm h1).1 (ukm h2).1
 rw [uch h1 rfl, uch h2 rfl] at h
 rw [qf (by rfl), ← h]
 omega
theorem allQ_mem {t : aj} {q : PlaceD} : q ∈ av t ↔ gj t q = true := allP_mem
theorem uaq {t : aj} (f : PlaceD → Bool) : ((av t).filter f).Pairwise fun a b => f5 (dn a) (dn b) < 0 := (ukf t).filter _
/-- places in order, of a text, are those of all places that are among them -/
theorem uew {t : aj} {l : List PlaceD} (h : l.Pairwise fun a b => f5 (dn a) (dn b) < 0) (hp : ∀ q ∈ l, gj t q = true) : l = (av t).filter fun q => decide (q ∈ l) :=
 za h (uaq _) fun q => by
  rw [List.mem_filter, decide_eq_true_eq, allQ_mem]
  exact ⟨fun h => ⟨hp q h, h⟩, fun h => h.2⟩
theorem usj {t : aj} {x : ak} {r : Int} {l : List PlaceD} (h : i6 t x r l = true) : l = (av t).filter fun q => decide (q ∈ l) := uew (uap h) fun q hq => (o4 h hq).1
theorem oe {t : aj} {x : ak} {r : Int} {l : List PlaceD} (h : i6 t x r l = true) : l.length ≤ (av t).length := by
 rw [usj h]
 exact List.length_filter_le _ _
theorem vj (t : aj) (x : ak) : (d7 t x).length ≤ (av t).length := List.length_filter_le _ _
theorem ujs (t : aj) (x : ak) : (er t x).length ≤ (av t).length := List.length_filter_le _ _
theorem yu (t : aj) (x : ak) : fh t x ≤ (av t).length := List.length_filter_le _ _
/-! ### How great numbers are -/
theorem ubl {g : ak → Nat} {m : Nat} : ∀ {l : List ak}, (∀ x ∈ l, g x ≤ m) → cg l g ≤ l.length * m
 | [], _ => by simp [cg]
 | x :: l, h => by
  have h1 := ubl (l := l) fun y hy => h y (List.mem_cons_of_mem _ hy)
  have h2 := h x (List.mem_cons_self ..)
  simp only [cg, List.map_cons, List.sum_cons, List.length_cons] at h1 ⊢
  rw [Nat.succ_mul]
  omega
theorem ucd {p : ah} (h : et p) (b : Bool) (i : Int) : cg p.pages (du b i) ≤ 4800 := by
 have hq := mr h.text
 have h1 := ubl (l := p.pages) (g := du b i) (m := 600) fun x hx => by
  obtain ⟨j, hj⟩ := List.getElem?_of_mem hx
  have hp := pageB_true.1 (h.page j x hj)
  unfold du
  cases decide (cn b x = i)
  ·exact Nat.zero_le _
  ·cases b
   ·have := oe hp.found
    show x.found.length ≤ 600
    omega
   ·have := oe hp.well
    show x.well.length ≤ 600
    omega
 have := h.np
 have h2 : p.pages.length * 600 ≤ 8 * 600 := Nat.mul_le_mul_right _ this
 omega
theorem ub6 {p : ah} (h : et p) (b : Bool) (i : Int) : cg p.pages (eh p.text b i) ≤ 4800 := by
 have hq := mr h.text
 have h1 := ubl (l := p.pages) (g := eh p.text b i) (m := 600) fun x hx => by
  have := vj p.text x
  unfold eh
  cases decide (cn b x = i)
  ·exact Nat.zero_le _
  ·show (d7 p.text x).length ≤ 600
   omega
 have := h.np
 have h2 : p.pages.length * 600 ≤ 8 * 600 := Nat.mul_le_mul_right _ this
 omega
theorem zz {p : ah} (h : et p) (b : Bool) (i : Nat) : 0 ≤ ly p b i ∧ ly p b i ≤ 90 := by
 unfold ly
 cases hr : (cy p b)[i]? with
 | none => exact ⟨Int.le_refl _, by show (0 : Int) ≤ 90; omega⟩
 | some r =>
  have hm := List.mem_of_getElem? hr
  have : io r = true := h.rd r (by
   rw [List.mem_append]
   cases b
   ·exact .inl hm
   ·exact .inr hm)
  unfold io at this
  rw [Bool.and_eq_true, inB_true, inB_true] at this
  exact this.2
theorem uay {p : ah} (h : et p) (b : Bool) (i : Nat) : 0 ≤ je p b i ∧ je p b i ≤ 48000 := by
 have h1 := ucd h b i
 have h2 := zz h b i
 unfold je
 have h3 : (0 : Int) < 100 - ly p b i := by omega
 refine ⟨Int.ediv_nonneg (by omega) (by omega), ?_⟩
 have h4 : 100 * ((cg p.pages (du b i) : Nat) : Int) / (100 - ly p b i) ≤ 100 * ((cg p.pages (du b i) : Nat) : Int) / 10 := by
  refine Int.le_ediv_of_mul_le (by omega) ?_
  have h5 := Int.ediv_mul_le (100 * ((cg p.pages (du b i) : Nat) : Int)) (show (100 - ly p b i) ≠ 0 by omega)
  have h6 : 0 ≤ 100 * ((cg p.pages (du b i) : Nat) : Int) / (100 - ly p b i) := Int.ediv_nonneg (by omega) (by omega)
  have h7 : 100 * ((cg p.pages (du b i) : Nat) : Int) / (100 - ly p b i) * 10 ≤ 100 * ((cg p.pages (du b i) : Nat) : Int) / (100 - ly p b i) * (100 - ly p b i) := Int.mul_le_mul_of_nonneg_left (by omega) h6
  omega
 omega
theorem uhp {p : ah} (h : et p) (b : Bool) (i : Nat) : -4800 ≤ ne p b i ∧ ne p b i ≤ 48000 := by
 have h1 := uay h b i
 have h2 := ub6 h b i
 unfold ne
 omega
theorem urg {p : ah} (h : et p) (i : Nat) : -4800 ≤ dh p i ∧ dh p i ≤ 48000 := by
 unfold dh
 cases decide (i < p.firsts.length)
 ·exact uhp h _ _
 ·exact uhp h _ _
theorem ujn {p : ah} (h : et p) (j : Nat) : 0 ≤ d9 p j ∧ d9 p j ≤ 600 := by
 refine ⟨udh h j, ?_⟩
 have hq := mr h.text
 unfold d9 pt
 cases hx : p.pages[j]? with
 | none => show (0 : Int) ≤ 600; omega
 | some x =>
  have := yu p.text x
  show yg p.text x ≤ 600
  unfold yg
  omega
/-! ### What is told -/
section
def fe (p : ah) (n : Int) : Int := bif decide (dc p = 0) then (bif inB n 0 ((p.pages.length : Int) - 1) then 0 else 2) else dc p
def gm (p : ah) (e : Int) : Int := bif decide (e = 0) then (bif j6 p then 0 else 8) else e
def lh (p : ah) (b : Bool) (n : Int) : Int := bif decide (dc p = 0) then (bif inB n 0 (((cy p b).length : Int) - 1) then 0 else 2) else dc p
def j0 (p : ah) (m : Int) : Int := bif decide (dc p = 0) then (bif decide (m < 0) then 2 else bif j6 p then 0 else 8) else dc p
def atE {α : Type} (e : Int) (d v : α) : α := bif decide (e = 0) then v else d
def ov (p : ah) (n : Int) : ak := (p.pages[n.toNat]?).getD ⟨0, 0, 0, 0, [], []⟩
def te (p : ah) (n : Int) : Int := atE (fe p n) 0 (fh p.text (ov p n) : Int)
def sq (p : ah) (n : Int) : List PlaceD := atE (fe p n) [] (d7 p.text (ov p n))
def vo (p : ah) (n : Int) : List PlaceD := atE (fe p n) [] (er p.text (ov p n))
def pa (p : ah) (b : Bool) (n : Int) : Int := atE (lh p b n) 0 (je p b n.toNat)
def p9 (p : ah) (n : Int) : Int := bif decide (fe p n = 0) then (bif decide ((er p.text (ov p n)).length = 0) then 6 else 0) else fe p n
def uc1 (x : ak) (k : Nat) : bq := ⟨((x.found.length * x.well.length / k : Nat) : Int), (((x.found.length * x.well.length + k - 1) / k : Nat) : Int)⟩
def rj (p : ah) (n : Int) : bq := atE (p9 p n) ⟨0, 0⟩ (uc1 (ov p n) (er p.text (ov p n)).length)
def qy (p : ah) (n : Int) : bq := atE (gm p (fe p n)) ⟨0, 0⟩ ⟨0, (bx p).alone (dh p) (d9 p) n.toNat⟩
def wc (p : ah) : Int := (bx p).most (dh p) (d9 p)
def r5 (p : ah) : bq := atE (gm p (dc p)) ⟨0, 0⟩ ⟨0, wc p⟩
noncomputable def kp (p : ah) : Nat → Int := (bx p).worst (dh p) (d9 p)
noncomputable def td (p : ah) : List Int := atE (gm p (dc p)) [] (cc p.pages.length (kp p))
def ug (p : ah) (s : Nat) : Bool := decide ((bx p).f (dh p) (d9 p) (fun i => s.testBit i) = wc p)
def ja (p : ah) : List Int := qg (ug p) (co p)
def qn (p : ah) (l : List Int) : List Int := l.filter fun k => decide (k < (p.firsts.length : Int))
def pj (p : ah) (l : List Int) : List Int := (l.filter fun k => !decide (k < (p.firsts.length : Int))).map fun k => k - (p.firsts.length : Int)
def ms (C : Nat → Int) (l : List Int) (j : Nat) : Int := bif decide ((j : Int) ∈ l) then 0 else C j
def uko (p : ah) (l : List Int) : Int := (bx p).most (dh p) (ms (d9 p) l)
def yf (p : ah) (m : Int) (s : Nat) : Bool := decide (uko p (ga p.pages.length s) ≤ m)
def l6 (p : ah) (m : Int) : List Int := atE (j0 p m) [] (qg (yf p m) p.pages.length)
end
theorem ukz (C : Nat → Int) : ms C [] = C := by funext j; simp [ms]
theorem uky (C : Nat → Int) (l : List Int) (i : Nat) : ms C (l ++ [(i : Int)]) = fk (ms C l) i := by
 funext j
 unfold ms fk
 by_cases e : j = i
 ·subst e; simp
 ·rw [decide_eq_false e, cond_false]
  congr 1
  rw [decide_eq_decide, List.mem_append, List.mem_singleton]
  constructor
  ·rintro (h | h)
   ·exact h
   ·omega
  ·exact .inl
theorem urb (N : Net) (R : Nat → Int) (j : Nat) : N.lessR R j 0 = R := by
 funext i
 unfold Net.lessR
 cases N.by j i <;> simp
theorem uee {p : ah} (h : j6 p = true) : ∀ i, i < (bx p).nr → 0 ≤ dh p i := fun i hi => by
 have := List.all_eq_true.1 h i (List.mem_range.2 hi)
 exact of_decide_eq_true this
end Go.AB
namespace Go.AB
open Go Go.RowKit
open Go.AB.Enc (cells)
open Go.PB (ay aj PlaceD bg bi bh bn ak ah cr bq)
theorem ums (l : List ak) (f : ak → ak) (g : ak → Nat) : cg (l.map f) g = cg l fun x => g (f x) := by unfold cg; rw [List.map_map]; rfl
/-! ### Readers who miss less -/
end Go.AB
namespace Go.AB
open Go Go.RowKit
open Go.AB.Enc (cells)
open Go.PB (ay aj PlaceD bg bi bh bn ak ah cr bq)
theorem uen (x : ak) (l : List ak) (g : ak → Nat) : cg (x :: l) g = g x + cg l g := by simp [cg]
end Go.AB
namespace Go.AB
open Go Go.RowKit
open Go.AB.Enc (cells)
open Go.PB (ay aj PlaceD bg bi bh bn ak ah cr bq)
end Go.AB
namespace Go.AB
open Go Go.RowKit
open Go.AB.Enc (cells)
open Go.PB (ay aj PlaceD bg bi bh bn ak ah cr bq)
end Go.AB
namespace Go.AB
open Go Go.RowKit
open Go.AB.Enc (cells)
open Go.PB (ay aj PlaceD bg bi bh bn ak ah cr bq)
section
variable {N : Net} {R C : Nat → Int}
theorem Net.Feas.congr {y z : Nat → Int} (h : N.Feas R C y) (e : ∀ j, j < N.np → y j = z j) : N.Feas R C z := by
 refine ⟨fun j hj => by rw [← e j hj]; exact h.page j hj, fun i hi => ?_⟩
 have : sm N.np (fun j => bif N.by j i then z j else 0) = sm N.np (fun j => bif N.by j i then y j else 0) := jv fun j hj => by rw [e j hj]
 rw [this]
 exact h.rd i hi
/-- less may remain -/
theorem Net.Feas.down {y z : Nat → Int} (h : N.Feas R C y) (e : ∀ j, j < N.np → 0 ≤ z j ∧ z j ≤ y j) : N.Feas R C z := by
 refine ⟨fun j hj => ⟨(e j hj).1, Int.le_trans (e j hj).2 (h.page j hj).2⟩, fun i hi => Int.le_trans (pm fun j hj => ?_) (h.rd i hi)⟩
 cases N.by j i
 ·exact Int.le_refl _
 ·exact (e j hj).2
theorem Net.feas_zero (hR : ∀ i, i < N.nr → 0 ≤ R i) (hC : ∀ j, j < N.np → 0 ≤ C j) : N.Feas R C fun _ => 0 := by
 refine ⟨fun j hj => ⟨Int.le_refl _, hC j hj⟩, fun i hi => ?_⟩
 have : sm N.np (fun j => bif N.by j i then (0 : Int) else 0) = 0 := (jv (h := fun _ => 0) fun j _ => by cases N.by j i <;> rfl).trans (pk _)
 rw [this]
 exact hR i hi
end
theorem ued {p : ah} (h : et p) (y : Nat → Int) : j5 p (cc p.pages.length fun j => fb p j + y j) = true ↔ (bx p).Feas (dh p) (d9 p) y := by
 have e : ∀ j, j < p.pages.length → gi (cc p.pages.length fun j => fb p j + y j) j - fb p j = y j := fun j hj => by
  rw [ump _ hj]; omega
 rw [ul1 h]
 exact ⟨fun k => k.2.congr e, fun k => ⟨jq _ _, k.congr fun j hj => (e j hj).symm⟩⟩
/-- without a truth nothing that is told is one -/
theorem umc {p : ah} (h : et p) : j5 p (cc p.pages.length (fb p)) = j6 p := by
 have e : (fb p) = fun j => fb p j + (fun _ => (0 : Int)) j := by funext j; simp
 rw [Bool.eq_iff_iff, e, ued h]
 constructor
 ·intro k
  refine List.all_eq_true.2 fun i hi => decide_eq_true ?_
  have := k.rd i (List.mem_range.1 hi)
  rwa [(jv (h := fun _ => 0) fun j _ => by cases (bx p).by j i <;> rfl).trans (pk _)] at this
 ·exact fun k => Net.feas_zero (uee k) fun j _ => udh h j
end Go.AB
namespace Go.AB
open Go Go.RowKit
open Go.AB.Enc (cells)
open Go.PB (ay aj PlaceD bg bi bh bn ak ah cr bq)
/-! ### First and second readers change their places -/
/-! ### Errors that are missed -/
theorem utt {a n : Nat} (hn : 0 < n) : a ≤ (a + n - 1) / n * n := by
 have hdm := Nat.div_add_mod a n
 have hlt := Nat.mod_lt a hn
 rw [Nat.mul_comm] at hdm
 rw [ceil_div' hn]
 split
 ·omega
 ·rw [Nat.add_mul]; omega
where
 ceil_div' {a n : Nat} (hb : 0 < n) : (a + n - 1) / n = if a % n = 0 then a / n else a / n + 1 := by
  have hdm := Nat.div_add_mod a n
  have hlt := Nat.mod_lt a hb
  split
  ·rename_i h0
   rw [h0, Nat.add_zero] at hdm
   refine Nat.div_eq_of_lt_le ?_ ?_
   ·rw [Nat.mul_comm]; omega
   ·rw [Nat.mul_comm, Nat.mul_add]; omega
  ·rename_i h0
   refine Nat.div_eq_of_lt_le ?_ ?_
   ·rw [Nat.mul_comm, Nat.mul_add]; omega
   ·rw [Nat.mul_comm, Nat.mul_add, Nat.mul_add]; omega
/-- how many hundredths of errors were missed, rounded up -/
def ll (n0 n1 : Nat) : Nat := bif decide (n0 = 0) then 0 else (100 * (n0 - n1) + n0 - 1) / n0
/-- the bound of who misses so much is no less than the errors -/
theorem uqt {n0 n1 : Nat} (h : n1 ≤ n0) (h90 : ll n0 n1 ≤ 90) : (n0 : Int) ≤ 100 * (n1 : Int) / (100 - (ll n0 n1 : Int)) := by
 refine Int.le_ediv_of_mul_le (by omega) ?_
 by_cases h0 : n0 = 0
 ·subst h0; simp; omega
 ·have e : ll n0 n1 = (100 * (n0 - n1) + n0 - 1) / n0 := by unfold ll; rw [decide_eq_false h0]; rfl
  have h1 := utt (a := 100 * (n0 - n1)) (n := n0) (by omega)
  rw [← e] at h1
  obtain ⟨m, hm⟩ : ∃ m, ll n0 n1 = m := ⟨_, rfl⟩
  rw [hm] at h1 h90 ⊢
  have h2 : (n0 : Int) * (100 - (m : Int)) = 100 * (n0 : Int) - (m : Int) * (n0 : Int) := by rw [Int.mul_sub, Int.mul_comm (n0 : Int) 100, Int.mul_comm (n0 : Int) (m : Int)]
  have h3 : ((m * n0 : Nat) : Int) = (m : Int) * (n0 : Int) := Int.natCast_mul ..
  rw [h2, ← h3]
  omega
end Go.AB
namespace Go.AB
open Go Go.RowKit
open Go.AB.Enc (cells)
open Go.PB (ay aj PlaceD bg bi bh bn ak ah cr bq)
end Go.AB
namespace Go.AB
open Go Go.RowKit
open Go.AB.Enc (cells)
open Go.PB (ay aj PlaceD bg bi bh bn ak ah cr bq)
/-! ### Places by their numbers -/
/-- the places whose numbers are so, among the first ones -/
def li (L : List PlaceD) (P : Nat → Bool) (n : Nat) : List PlaceD := ((List.range n).filter P).filterMap fun i => L[i]?
theorem w4 {L : List PlaceD} {P : Nat → Bool} {n : Nat} {q : PlaceD} (h : L[n]? = some q) : li L P (n + 1) = li L P n ++ bif P n then [q] else [] := by
 unfold li
 rw [List.range_succ, List.filter_append, List.filterMap_append]
 cases hp : P n <;> simp [hp, h]
theorem pickQ_mem {L : List PlaceD} {P : Nat → Bool} {n : Nat} {q : PlaceD} : q ∈ li L P n ↔ ∃ i, i < n ∧ P i = true ∧ L[i]? = some q := by
 unfold li
 simp only [List.mem_filterMap, List.mem_filter, List.mem_range]
 exact ⟨fun ⟨i, ⟨h1, h2⟩, h3⟩ => ⟨i, h1, h2, h3⟩, fun ⟨i, h1, h2, h3⟩ => ⟨i, ⟨h1, h2⟩, h3⟩⟩
theorem uf4 {L : List PlaceD} {P : Nat → Bool} (hL : L.Pairwise fun a b => f5 (dn a) (dn b) < 0) : ∀ {n : Nat}, n ≤ L.length → (li L P n).Pairwise fun a b => f5 (dn a) (dn b) < 0
 | 0, _ => .nil
 | n + 1, h => by
  have hq : L[n]? = some L[n] := List.getElem?_eq_getElem (by omega)
  rw [w4 hq, List.pairwise_append]
  refine ⟨uf4 hL (by omega), ?_, fun a ha b hb => ?_⟩
  ·cases P n <;> simp
  ·obtain ⟨i, hi, _, hia⟩ := pickQ_mem.1 ha
   cases hp : P n
   ·rw [hp] at hb; cases hb
   ·rw [hp] at hb
    simp only [cond_true, List.mem_singleton] at hb
    subst hb
    obtain ⟨h1, h2⟩ := List.getElem?_eq_some_iff.1 hia
    have := List.pairwise_iff_getElem.1 hL i n h1 (by omega) hi
    rwa [h2] at this
theorem uf5 (L : List PlaceD) (P : Nat → Bool) (n : Nat) : (li L P n).length ≤ n := by
 unfold li
 refine Nat.le_trans (List.length_filterMap_le _ _) ?_
 have := List.length_filter_le P (List.range n)
 rwa [List.length_range] at this
end Go.AB
namespace Go.AB
open Go Go.RowKit
open Go.AB.Enc (cells)
open Go.PB (ay aj PlaceD bg bi bh bn ak ah cr bq)
/-- a number's place lies on a page -/
def onI (t : aj) (x : ak) (i : Nat) : Bool := match (av t)[i]? with
 | some q => dw t x q
 | none => false
/-- the errors of a page, among the first places -/
def ii (t : aj) (P : Nat → Bool) (n : Nat) (x : ak) : List PlaceD := li (av t) (fun i => onI t x i && P i) n
def gn (t : aj) (P F : Nat → Bool) (n : Nat) (r : Int) (x : ak) : List PlaceD := bif decide (0 ≤ r) then li (av t) (fun i => onI t x i && P i && F i) n else []
def mg (t : aj) (P F W : Nat → Bool) (n : Nat) (x : ak) : ak := ⟨x.fr, x.to, x.fst, x.snd, gn t P F n x.fst x, gn t P W n x.snd x⟩
/-- how many errors there were on the pages of a reader, and how many were found -/
def l4 (t : aj) (P : Nat → Bool) (n : Nat) (l : List ak) (b : Bool) (r : Int) : Nat := cg l fun x => bif decide (cn b x = r) then (ii t P n x).length else 0
def l3 (t : aj) (P F : Nat → Bool) (n : Nat) (l : List ak) (b : Bool) (r : Int) : Nat := cg l fun x => bif decide (cn b x = r) then (gn t P F n r x).length else 0
def mj (t : aj) (P F : Nat → Bool) (n : Nat) (l : List ak) (b : Bool) (rs : List bn) : List bn := rs.mapIdx fun i r => ⟨r.id, (ll (l4 t P n l b i) (l3 t P F n l b i) : Int)⟩
/-- the proofs with what was found of the errors -/
def kr (p : ah) (P F W : Nat → Bool) : ah := ⟨p.text, mj p.text P F (av p.text).length p.pages false p.firsts, mj p.text P W (av p.text).length p.pages true p.seconds, p.pages.map (mg p.text P F W (av p.text).length)⟩
def mw (p : ah) (P : Nat → Bool) : List Int := p.pages.map fun x => ((ii p.text P (av p.text).length x).length : Int)
theorem xf {t : aj} {x : ak} {i : Nat} {q : PlaceD} (h : (av t)[i]? = some q) : onI t x i = dw t x q := by unfold onI; rw [h]
theorem ui3 {t : aj} {P : Nat → Bool} {n : Nat} {x : ak} {q : PlaceD} (h : q ∈ ii t P n x) : dw t x q = true ∧ gj t q = true := by
 obtain ⟨i, _, h2, h3⟩ := pickQ_mem.1 h
 rw [Bool.and_eq_true, xf h3] at h2
 exact ⟨h2.1, allQ_mem.1 (List.mem_of_getElem? h3)⟩
theorem uh5 {t : aj} {P F : Nat → Bool} {n : Nat} {r : Int} {x : ak} {q : PlaceD} (h : q ∈ gn t P F n r x) : q ∈ ii t P n x := by
 unfold gn at h
 cases hr : decide (0 ≤ r)
 ·rw [hr] at h; cases h
 ·rw [hr] at h
  obtain ⟨i, h1, h2, h3⟩ := pickQ_mem.1 h
  rw [Bool.and_eq_true] at h2
  exact pickQ_mem.2 ⟨i, h1, h2.1, h3⟩
theorem usv (t : aj) (P : Nat → Bool) (x : ak) : ii t P (av t).length x = (av t).filter fun q => decide (q ∈ ii t P (av t).length x) := uew (uf4 (ukf t) (Nat.le_refl _)) fun _ h => (ui3 h).2
theorem ur4 (t : aj) (P F : Nat → Bool) (n : Nat) (hn : n ≤ (av t).length) (r : Int) (x : ak) : (gn t P F n r x).length ≤ (ii t P n x).length := by
 unfold gn
 cases decide (0 ≤ r)
 ·exact Nat.zero_le _
 ·show (li (av t) (fun i => onI t x i && P i && F i) n).length ≤ _
  unfold ii
  induction n with
  | zero => exact Nat.le_refl _
  | succ n ih =>
   have hq : (av t)[n]? = some (av t)[n] := List.getElem?_eq_getElem (by omega)
   rw [w4 hq, w4 hq, List.length_append, List.length_append]
   have := ih (by omega)
   cases onI t x n && P n <;> cases F n <;> simp <;> omega
theorem uc7 (t : aj) (P F : Nat → Bool) (l : List ak) (b : Bool) (r : Int) : l3 t P F (av t).length l b r ≤ l4 t P (av t).length l b r := by
 unfold l3 l4
 induction l with
 | nil => exact Nat.le_refl _
 | cons x l ih =>
  rw [uen, uen]
  have := ur4 t P F _ (Nat.le_refl _) r x
  cases decide (cn b x = r)
  ·simpa using ih
  ·simp only [cond_true]; omega
theorem uef {p : ah} {P : Nat → Bool} {j : Nat} {x : ak} (h : p.pages[j]? = some x) : gi (mw p P) j = ((ii p.text P (av p.text).length x).length : Int) := by
 unfold gi mw
 rw [List.getElem?_map, h]; rfl
/-- what is told of errors is no more than they are, and they are no more than words -/
theorem ul9 (t : aj) (P F W : Nat → Bool) (x : ak) : (d7 t (mg t P F W (av t).length x)).length ≤ (ii t P (av t).length x).length ∧ (ii t P (av t).length x).length ≤ fh t (mg t P F W (av t).length x) := by
 have he : (ii t P (av t).length x).length = (av t).countP fun q => decide (q ∈ ii t P (av t).length x) := by
  rw [List.countP_eq_length_filter]
  exact congrArg List.length (usv t P x)
 constructor
 ·rw [he]
  unfold d7
  rw [← List.countP_eq_length_filter]
  refine List.countP_mono_left fun q _ hq => ?_
  rw [Bool.or_eq_true, decide_eq_true_eq, decide_eq_true_eq] at hq
  exact decide_eq_true (hq.elim uh5 uh5)
 ·rw [he]
  unfold fh
  rw [← List.countP_eq_length_filter]
  refine List.countP_mono_left fun q _ hq => ?_
  exact (ui3 (of_decide_eq_true hq)).1
theorem uhb {t : aj} {P F : Nat → Bool} {n : Nat} {l : List ak} {b : Bool} {rs : List bn} {i : Nat} (hi : i < rs.length) : ∃ r, (mj t P F n l b rs)[i]? = some r ∧ r.miss = (ll (l4 t P n l b i) (l3 t P F n l b i) : Int) := by
 unfold mj
 rw [List.getElem?_mapIdx, List.getElem?_eq_getElem hi]
 exact ⟨_, rfl, rfl⟩
theorem umt {l : List ak} {g h : ak → Nat} (e : ∀ x ∈ l, g x = h x) : cg l g = cg l h := by
 unfold cg
 rw [List.map_congr_left e]
/-- the bound of a reader is no less than the errors on the pages -/
theorem ube {p : ah} {P F W : Nat → Bool} (hx : et (kr p P F W)) (b : Bool) {i : Nat} (hi : i < (cy p b).length) : ((l4 p.text P (av p.text).length p.pages b i : Nat) : Int) ≤ je (kr p P F W) b i := by
 have hmiss : ly (kr p P F W) b i = (ll (l4 p.text P (av p.text).length p.pages b i) (l3 p.text P (bif b then W else F) (av p.text).length p.pages b i) : Int) := by
  unfold ly
  cases b
  ·obtain ⟨r, h1, h2⟩ := uhb (t := p.text) (P := P) (F := F) (n := (av p.text).length) (l := p.pages) (b := false) (rs := p.firsts) hi
   show (match (mj p.text P F (av p.text).length p.pages false p.firsts)[i]? with | some r => r.miss | none => 0) = _
   rw [h1]; exact h2
  ·obtain ⟨r, h1, h2⟩ := uhb (t := p.text) (P := P) (F := W) (n := (av p.text).length) (l := p.pages) (b := true) (rs := p.seconds) hi
   show (match (mj p.text P W (av p.text).length p.pages true p.seconds)[i]? with | some r => r.miss | none => 0) = _
   rw [h1]; exact h2
 have hown : cg (kr p P F W).pages (du b i) = l3 p.text P (bif b then W else F) (av p.text).length p.pages b i := by
  show cg (p.pages.map (mg p.text P F W (av p.text).length)) (du b i) = _
  rw [ums]
  unfold l3
  refine umt fun x _ => ?_
  unfold du
  cases b
  ·show (bif decide (x.fst = (i : Int)) then (gn p.text P F (av p.text).length x.fst x).length else 0) = bif decide (x.fst = (i : Int)) then (gn p.text P F (av p.text).length (i : Int) x).length else 0
   by_cases e : x.fst = (i : Int)
   ·rw [e]
   ·rw [decide_eq_false e]; rfl
  ·show (bif decide (x.snd = (i : Int)) then (gn p.text P W (av p.text).length x.snd x).length else 0) = bif decide (x.snd = (i : Int)) then (gn p.text P W (av p.text).length (i : Int) x).length else 0
   by_cases e : x.snd = (i : Int)
   ·rw [e]
   ·rw [decide_eq_false e]; rfl
 have hbd := zz hx b i
 rw [hmiss] at hbd
 have := uqt (uc7 p.text P (bif b then W else F) p.pages b i) (by omega)
 unfold je
 rw [hown, hmiss]
 exact this
/-- the errors are a truth -/
theorem ul7 {p : ah} {P F W : Nat → Bool} (hx : et (kr p P F W)) : j5 (kr p P F W) (mw p P) = true := by
 have hlen : (kr p P F W).pages.length = p.pages.length := List.length_map _
 have hget : ∀ (j : Nat) (x : ak), p.pages[j]? = some x → (kr p P F W).pages[j]? = some (mg p.text P F W (av p.text).length x) := fun j x h => by
  show (p.pages.map (mg p.text P F W (av p.text).length))[j]? = _
  rw [List.getElem?_map, h]; rfl
 unfold j5
 simp only [Bool.and_eq_true, decide_eq_true_eq, List.all_eq_true, List.mem_range, inB_true]
 refine ⟨⟨by rw [hlen]; exact List.length_map _, fun j hj => ?_⟩, fun i hi => ?_⟩
 ·rw [hlen] at hj
  have h := List.getElem?_eq_getElem hj
  have := ul9 p.text P F W p.pages[j]
  rw [uef h]
  unfold fb mf
  rw [pr (hget j _ h), pr (hget j _ h)]
  show ((d7 p.text _).length : Int) ≤ _ ∧ _ ≤ (fh p.text _ : Int)
  omega
 ·have key : ∀ (b : Bool) (k : Nat), k < (cy p b).length → (∀ (j : Nat) (x : ak), p.pages[j]? = some x → (bx (kr p P F W)).by j i = decide (cn b x = (k : Int))) → sm (kr p P F W).pages.length (fun j => bif (bx (kr p P F W)).by j i then gi (mw p P) j else 0) ≤ je (kr p P F W) b k := fun b k hk hb => by
   refine Int.le_trans (Int.le_of_eq ?_) (ube hx b hk)
   unfold l4
   rw [y6, hlen]
   refine jv fun j hj => ?_
   have h := List.getElem?_eq_getElem hj
   rw [hb j _ h, uef h, h]
   dsimp only
   cases decide (cn b p.pages[j] = (k : Int)) <;> rfl
  have hnf : (kr p P F W).firsts.length = p.firsts.length := List.length_mapIdx ..
  have hns : (kr p P F W).seconds.length = p.seconds.length := List.length_mapIdx ..
  unfold co at hi
  unfold l7
  by_cases q : i < (kr p P F W).firsts.length
  ·rw [decide_eq_true q, cond_true]
   exact key false i (by show i < p.firsts.length; omega) fun j x h => by rw [sw hx (hget j x h), decide_eq_true q, cond_true]; rfl
  ·rw [decide_eq_false q, cond_false]
   exact key true _ (by show _ < p.seconds.length; omega) fun j x h => by rw [sw hx (hget j x h), decide_eq_false q, cond_false]; rfl
end Go.AB
namespace Go.AB
open Go Go.RowKit
open Go.AB.Enc (cells)
open Go.PB (ay aj PlaceD bg bi bh bn ak ah cr bq)
/-- as much as can be on a page, if nothing is lost by it -/
theorem Net.pick_alone {N : Net} {R C : Nat → Int} {j : Nat} (h0 : 0 ≤ N.alone R C j) (h : N.most R C ≤ N.alone R C j + N.most (N.lessR R j (N.alone R C j)) (fk C j)) : N.pick R C j = N.alone R C j :=
 Net.pick_eq ⟨h0, Int.le_refl _, h, fun m h1 h2 => by omega⟩
def pg : ByteArray := ⟨#[116, 104, 101]⟩
def jr : ByteArray := ⟨#[115, 101, 97]⟩
def xIs : ByteArray := ⟨#[105, 115]⟩
def ph : ByteArray := ⟨#[111, 108, 100]⟩
def v6 : ByteArray := ⟨#[97, 110, 100]⟩
def exTx : aj := [⟨7, [[pg, jr, xIs, ph], [ph, pg, jr]]⟩, ⟨3, [[jr, v6, jr]]⟩]
def exPg : List ak := [⟨0, 0, 0, 0, [⟨0, 0, 0⟩], [⟨0, 0, 0⟩, ⟨0, 0, 3⟩]⟩, ⟨1, 2, 0, -1, [⟨0, 1, 1⟩], []⟩]
def exPr : ah := ⟨exTx, [⟨1, 50⟩, ⟨2, 0⟩], [⟨3, 60⟩], exPg⟩
theorem yn : gm exPr (dc exPr) = 0 := by decide +kernel
theorem xp_words : te exPr 1 = 6 ∧ fe exPr 1 = 0 ∧ te exPr 0 = 4 ∧ fe exPr 0 = 0 := ⟨by decide +kernel, by decide +kernel, by decide +kernel, by decide +kernel⟩
theorem xp_found : sq exPr 0 = [⟨0, 0, 0⟩, ⟨0, 0, 3⟩] ∧ vo exPr 0 = [⟨0, 0, 0⟩] := ⟨by decide +kernel, by decide +kernel⟩
theorem xp_guess : rj exPr 0 = ⟨2, 2⟩ ∧ p9 exPr 0 = 0 := ⟨by decide +kernel, by decide +kernel⟩
theorem xp_remain : qy exPr 1 = ⟨0, 1⟩ ∧ gm exPr (fe exPr 1) = 0 ∧ qy exPr 0 = ⟨0, 1⟩ ∧ gm exPr (fe exPr 0) = 0 := ⟨by decide +kernel, by decide +kernel, by decide +kernel, by decide +kernel⟩
theorem uk1 : r5 exPr = ⟨0, 1⟩ := by decide +kernel
theorem xp_why : qn exPr (ja exPr) = [0] ∧ pj exPr (ja exPr) = [] := ⟨by decide +kernel, by decide +kernel⟩
theorem xp_bound : pa exPr false 0 = 4 ∧ lh exPr false 0 = 0 ∧ pa exPr false 1 = 0 ∧ lh exPr false 1 = 0 ∧ pa exPr true 0 = 5 ∧ lh exPr true 0 = 0 := ⟨by decide +kernel, by decide +kernel, by decide +kernel, by decide +kernel, by decide +kernel, by decide +kernel⟩
theorem xp_chief : l6 exPr 0 = [0, 1] ∧ j0 exPr 0 = 0 ∧ l6 exPr 1 = [] ∧ j0 exPr 1 = 0 := ⟨by decide +kernel, by decide +kernel, by decide +kernel, by decide +kernel⟩
theorem uk0 : td exPr = [1, 0] := by
 have h0 : kp exPr 0 = 1 := by
  have := Net.pick_alone (N := bx exPr) (R := dh exPr) (C := d9 exPr) (j := 0) (by decide +kernel) (by decide +kernel)
  exact this.trans (by decide +kernel)
 have h1 : kp exPr 1 = 0 := by
  have e : kp exPr 1 = (bx exPr).pick ((bx exPr).lessR (dh exPr) 0 1) (fk (d9 exPr) 0) 1 := by
   show (bx exPr).pick ((bx exPr).lessR (dh exPr) 0 (kp exPr 0)) (fk (d9 exPr) 0) 1 = _
   rw [h0]
  have := Net.pick_alone (N := bx exPr) (R := (bx exPr).lessR (dh exPr) 0 1) (C := fk (d9 exPr) 0) (j := 1) (by decide +kernel) (by decide +kernel)
  exact e.trans (this.trans (by decide +kernel))
 unfold td
 rw [yn]
 show [kp exPr 0, kp exPr 1] = _
 rw [h0, h1]
end Go.AB
namespace Go.AB
open Go Go.RowKit
open Go.AB.Enc (cells)
open Go.PB (ay aj PlaceD bg bi bh bn ak ah cr bq)
/-- who is found by one reader alone, so far -/
def ie (F W : List PlaceD) (q : PlaceD) : Bool := decide (q ∈ F) != decide (q ∈ W)
theorem up8 (F : List PlaceD) (q : PlaceD) : ie F [] q = decide (q ∈ F) := by simp [ie]
theorem ubn {l : List PlaceD} (h : l.Pairwise fun a b => f5 (dn a) (dn b) < 0) : l.Nodup := h.imp fun {a b} hab e => by
 rw [qf (by rfl)] at hab
 subst e
 exact si _ hab
theorem umo {l : List PlaceD} (h : l.Nodup) {k : Nat} {q : PlaceD} (hq : l[k]? = some q) : q ∉ l.take k := fun hm => by
 obtain ⟨i, hi⟩ := List.getElem?_of_mem hm
 have hik : i < k := by have := (List.getElem?_eq_some_iff.1 hi).1; rw [List.length_take] at this; omega
 rw [List.getElem?_take_of_lt hik] at hi
 obtain ⟨h1, h2⟩ := List.getElem?_eq_some_iff.1 hi
 obtain ⟨h3, h4⟩ := List.getElem?_eq_some_iff.1 hq
 have := (List.pairwise_iff_getElem.1 h) i k h1 h3 hik
 exact this (h2.trans h4.symm)
/-- the place at hand is in the map if the first reader found it -/
theorem zq {F W : List PlaceD} (hW : W.Nodup) {k : Nat} {q : PlaceD} (hq : W[k]? = some q) : ie F (W.take k) q = decide (q ∈ F) := by
 unfold ie
 rw [decide_eq_false (umo hW hq)]
 cases decide (q ∈ F) <;> rfl
theorem ugo {F W : List PlaceD} (hW : W.Nodup) {k : Nat} {q : PlaceD} (hq : W[k]? = some q) (x : PlaceD) : ie F (W.take (k + 1)) x = bif decide (x = q) then !decide (q ∈ F) else ie F (W.take k) x := by
 have hm : decide (x ∈ W.take (k + 1)) = (decide (x ∈ W.take k) || decide (x = q)) := by
  rw [List.take_add_one, hq, Option.toList_some, Bool.eq_iff_iff]
  simp
 by_cases e : x = q
 ·subst e
  unfold ie
  rw [hm, decide_eq_true (rfl : x = x), Bool.or_true, cond_true]
  cases decide (x ∈ F) <;> rfl
 ·unfold ie
  rw [hm, decide_eq_false e, Bool.or_false, cond_false]
/-- what both found so far -/
def pc (F W : List PlaceD) (k : Nat) : List PlaceD := (W.take k).filter fun q => decide (q ∈ F)
theorem ujq {F W : List PlaceD} {k : Nat} {q : PlaceD} (hq : W[k]? = some q) : pc F W (k + 1) = pc F W k ++ bif decide (q ∈ F) then [q] else [] := by
 unfold pc
 rw [List.take_add_one, hq, Option.toList_some, List.filter_append]
 cases h : decide (q ∈ F) <;> simp [h]
theorem ujr (F W : List PlaceD) (k : Nat) : (pc F W k).length ≤ W.length := by
 unfold pc
 have := List.length_filter_le (fun q => decide (q ∈ F)) (W.take k)
 rw [List.length_take] at this
 omega
theorem uty {p : ah} {last : Int} {x : ak} (h : qk p last x) : pc x.found x.well x.well.length = er p.text x := by
 have hs : (pc x.found x.well x.well.length).Pairwise fun a b => f5 (dn a) (dn b) < 0 := by
  unfold pc
  rw [List.take_length]
  exact (uap h.well).filter _
 refine za hs (uaq _) fun q => ?_
 unfold pc
 rw [List.take_length, List.mem_filter, decide_eq_true_eq]
 show _ ↔ q ∈ (av p.text).filter _
 rw [List.mem_filter, Bool.and_eq_true, decide_eq_true_eq, decide_eq_true_eq, allQ_mem]
 exact ⟨fun ⟨h1, h2⟩ => ⟨(o4 h.well h1).1, h2, h1⟩, fun ⟨_, h2, h3⟩ => ⟨h3, h2⟩⟩
/-- both's places, and those of one alone in any order, put in order: all that are found -/
theorem uke {p : ah} {last : Int} {x : ak} (h : qk p last x) {ks s : List PlaceD} (hn : ks.Nodup) (hk : ∀ q, q ∈ ks ↔ ie x.found x.well q = true) (hp : s.Perm (er p.text x ++ ks)) (hs : s.Pairwise fun a b => ¬ f5 (dn b) (dn a) < 0) : s = d7 p.text x := by
 have hmb : ∀ q, q ∈ er p.text x ↔ q ∈ x.found ∧ q ∈ x.well := fun q => by
  show q ∈ (av p.text).filter _ ↔ _
  rw [List.mem_filter, Bool.and_eq_true, decide_eq_true_eq, decide_eq_true_eq, allQ_mem]
  exact ⟨fun h => h.2, fun h2 => ⟨(o4 h.well h2.2).1, h2⟩⟩
 have hko : ∀ q, ie x.found x.well q = true ↔ (q ∈ x.found ∧ q ∉ x.well) ∨ (q ∉ x.found ∧ q ∈ x.well) := fun q => by
  unfold ie
  by_cases h1 : q ∈ x.found <;> by_cases h2 : q ∈ x.well <;> simp [h1, h2]
 have hnd : (er p.text x ++ ks).Nodup := by
  rw [List.nodup_append]
  refine ⟨ubn (uaq _), hn, fun a ha b hb e => ?_⟩
  subst e
  have h1 := (hmb a).1 ha
  rcases (hko a).1 ((hk a).1 hb) with h2 | h2
  ·exact h2.2 h1.2
  ·exact h2.1 h1.1
 have hsn : s.Nodup := hp.nodup_iff.2 hnd
 have hs2 : s.Pairwise fun a b => f5 (dn a) (dn b) < 0 := by
  have := List.Pairwise.and hs hsn
  refine this.imp fun {a b} hab => ?_
  rw [qf (by rfl)] at hab ⊢
  refine Classical.byContradiction fun hno => hab.2 ?_
  exact uru (ucq (by rfl) hno hab.1)
 refine za hs2 (uaq _) fun q => ?_
 rw [hp.mem_iff, List.mem_append, hmb, hk, hko]
 show _ ↔ q ∈ (av p.text).filter _
 rw [List.mem_filter, Bool.or_eq_true, decide_eq_true_eq, decide_eq_true_eq, allQ_mem]
 constructor
 ·rintro (⟨h1, h2⟩ | ⟨h1, _⟩ | ⟨_, h2⟩)
  ·exact ⟨(o4 h.found h1).1, .inl h1⟩
  ·exact ⟨(o4 h.found h1).1, .inl h1⟩
  ·exact ⟨(o4 h.well h2).1, .inr h2⟩
 ·rintro ⟨_, h1 | h1⟩
  ·by_cases h2 : q ∈ x.well
   ·exact .inl ⟨h1, h2⟩
   ·exact .inr (.inl ⟨h1, h2⟩)
  ·by_cases h2 : q ∈ x.found
   ·exact .inl ⟨h2, h1⟩
   ·exact .inr (.inr ⟨h2, h1⟩)
/-! ### The words of a page, line by line -/
def gw (t : aj) (x : ak) (l : List PlaceD) : Nat := (l.filter (dw t x)).length
theorem ud2 (t : aj) (x : ak) {k n : Nat} {c : ay} {l : List ByteArray} (hn : c.lines[n]? = some l) : gw t x (iu t k c.lines (n + 1)) = gw t x (iu t k c.lines n) + bif inB ((gq t k : Int) + (n : Int)) x.fr x.to then l.length else 0 := by
 have e : iu t k c.lines (n + 1) = iu t k c.lines n ++ (lm k n l).map (·.1) := by
  unfold iu
  rw [udf k hn, List.map_append, List.append_assoc]
 unfold gw
 rw [e, List.filter_append, List.length_append]
 congr 1
 have hall : ∀ q ∈ (lm k n l).map (·.1), dw t x q = inB ((gq t k : Int) + (n : Int)) x.fr x.to := fun q hq => by
  obtain ⟨y, hy, rfl⟩ := List.mem_map.1 hq
  obtain ⟨w, hw, rfl⟩ := List.mem_mapIdx.1 hy
  show inB (rg t ⟨(k : Int), (n : Int), (w : Int)⟩) x.fr x.to = _
  unfold rg
  dsimp only
  rw [Int.toNat_natCast, Int.add_comm]
 have hlen : ((lm k n l).map (·.1)).length = l.length := by rw [List.length_map]; unfold lm; rw [List.length_mapIdx]
 cases hb : inB ((gq t k : Int) + (n : Int)) x.fr x.to
 ·rw [List.filter_eq_nil_iff.2 fun q hq => by rw [hall q hq, hb]; simp]; rfl
 ·rw [List.filter_eq_self.2 fun q hq => by rw [hall q hq, hb], hlen]; rfl
theorem ulb (t : aj) (x : ak) : gw t x (av t) = fh t x := rfl
end Go.AB
namespace Go.PB
structure dr where
 readers : List Int
 pages : List Int
 read : List (List Int)
/-- the reference's: readers and pages alone -/
structure dt where
 readers : List Int
 pages : List Int
end Go.PB
namespace Go.AB
open Go Go.RowKit
open Go.AB.Enc (cells)
open Go.PB (ay aj PlaceD bg bi bh bn ak ah cr bq dr dt)
instance : Enc dr := ⟨fun x => [lst x.readers, lst x.pages, lst x.read], 3, fun _ => rfl, fun m x c h => by
 simp only [List.mem_cons, List.not_mem_nil, or_false] at h
 rcases h with rfl | rfl | rfl
 ·exact bv m _
 ·exact bv m _
 ·exact bv m _, fun x c h => by
 simp only [List.mem_cons, List.not_mem_nil, or_false] at h; rcases h with rfl | rfl | rfl <;> rfl⟩
def ib (p : ah) (R C : Nat → Int) : dr := ⟨cc (co p) R, cc p.pages.length C, p.pages.map (eg p)⟩
/-- numbers that no sum of takes too far -/
structure Bd (p : ah) (R C : Nat → Int) : Prop where
 r : ∀ i, -1000000 ≤ R i ∧ R i ≤ 1000000
 c : ∀ j, 0 ≤ C j ∧ C j ≤ 1000000
 nr : co p ≤ 6
 np : p.pages.length ≤ 8
theorem yh {p : ah} (h : et p) : Bd p (dh p) (d9 p) := ⟨fun i => by have := urg h i; omega, fun j => by have := ujn h j; omega, by have := h.nf; have := h.ns; unfold co; omega, h.np⟩
/-- what some first readers of a set have -/
def fR (R : Nat → Int) (S : Nat → Bool) (i : Nat) : Int := sm i fun k => bif S k then R k else 0
def fC (p : ah) (C : Nat → Int) (S : Nat → Bool) (j : Nat) : Int := sm j fun k => bif (bx p).hit S k then 0 else C k
theorem uit (p : ah) (R C : Nat → Int) (S : Nat → Bool) : (bx p).f R C S = fR R S (co p) + fC p C S p.pages.length := rfl
theorem ubp {g : Nat → Int} {m : Int} (h : ∀ i, -m ≤ g i ∧ g i ≤ m) : ∀ n : Nat, -(n * m) ≤ sm n g ∧ sm n g ≤ n * m
 | 0 => by simp [sm]
 | n + 1 => by
  have h1 := ubp h n
  have h2 := h n
  have e : ((n + 1 : Nat) : Int) * m = (n : Int) * m + m := by rw [Int.natCast_add, Int.add_mul]; simp
  simp only [sm]
  omega
theorem uc6 {p : ah} {R C : Nat → Int} (h : Bd p R C) (S : Nat → Bool) (i : Nat) (hi : i ≤ co p) : -6000000 ≤ fR R S i ∧ fR R S i ≤ 6000000 := by
 have := ubp (g := fun k => bif S k then R k else 0) (m := 1000000) (fun k => by cases S k; simp; exact h.r k) i
 have := h.nr
 unfold fR
 omega
theorem uiy {p : ah} {R C : Nat → Int} (h : Bd p R C) (S : Nat → Bool) (j : Nat) (hj : j ≤ p.pages.length) : 0 ≤ fC p C S j ∧ fC p C S j ≤ 8000000 := by
 have h1 := ubp (g := fun k => bif (bx p).hit S k then 0 else C k) (m := 1000000) (fun k => by have := h.c k; cases (bx p).hit S k; simp; omega; simp) j
 have h2 := ue0 (n := j) (g := fun k => bif (bx p).hit S k then 0 else C k) fun k _ => by have := h.c k; cases (bx p).hit S k; exact this.1; exact Int.le_refl _
 have := h.np
 unfold fC
 omega
theorem f_bd {p : ah} {R C : Nat → Int} (h : Bd p R C) (S : Nat → Bool) : -6000000 ≤ (bx p).f R C S ∧ (bx p).f R C S ≤ 14000000 := by
 have h1 := uc6 h S _ (Nat.le_refl _)
 have h2 := uiy h S _ (Nat.le_refl _)
 rw [uit]
 omega
theorem uhe {g : Nat → Int} {a b : Int} (h : ∀ s, a ≤ g s ∧ g s ≤ b) (k : Nat) : a ≤ n9 g k ∧ n9 g k ≤ b := by
 obtain ⟨s, _, e⟩ := ucn (g := g) k
 rw [e]
 exact h s
theorem ug4 {p : ah} {R C : Nat → Int} (h : Bd p R C) : -6000000 ≤ (bx p).most R C ∧ (bx p).most R C ≤ 14000000 := uhe (fun s => f_bd h _) _
end Go.AB
namespace Go.AB
open Go Go.RowKit
open Go.AB.Enc (cells)
section
variable {P : Program} {o : Oper} {st : St} {K : St → Prop}
end
end Go.AB
namespace Go.AB
open Go Go.RowKit Go.Shelf Go.Proofs
open Go.AB.Enc (cells)
section
variable {P : Program} {o : Oper} {st : St} {K : St → Prop}
theorem up0 {E : Env} {w : World} {v : Value} {n ver len : Nat} (hp : R E w (.own n ver len) v) : ∃ a cap, v = .slice a len cap ∧ n < E.nx ∧ len ≤ cap ∧ cap ≤ maxLen ∧ ∀ ver' wv val, E.T n = some (ver', wv, val) → ver ≤ ver' ∧ (ver = ver' → ∃ m, len ≤ m ∧ val = .slice a m cap) := by
 cases hp with
 | own h1 h2 h3 h4 => exact ⟨_, _, rfl, h1, h2, h3, h4⟩
/-- append of nothing onto an own slice. -/
theorem uqp {t e : TypeId} {sz bytes n ver m : Nat} [AppT P t e sz bytes] {s x : Operand} {tk : Tok} (ho : o.op = .call { callee := .builtin .append, args := #[s, x], argTypes := #[t, t] }) (hs : evC st s = .own n ver m) (hx : evC st x = .list [] tk) : NStep P o st (.own n ver m) := fun E w a hsim => by
 obtain ⟨ht, i, z, hie, hz, h1, h2, h3⟩ := AppT.spec (P := P) (t := t) (e := e) (sz := sz) (bytes := bytes)
 have hown := hs ▸ hsim.ev s
 obtain ⟨ad, cap, e1, q1, q2, q3, q4⟩ := up0 hown
 obtain ⟨ao, c, _, _, e3, _⟩ := (hx ▸ hsim.ev x).list_inv
 refine ⟨a.eval s, hown, fun w' => ?_⟩
 have hrun := wr (P := P) w' t o.type e i ht hie ad ao m cap c q2
 simp only [execOp, ho, resolve, invoke, builtin, Sem.run_bind, Sem.run_pure, Result.andThen_ok, List.map_toArray, List.map_cons, List.map_nil, e1, e3]
 rw [List.length_nil] at *
 rw [hrun]; rfl
/-- append of data onto an own slice. -/
theorem rm {α : Type} [Enc α] {t e : TypeId} {bytes n ver wv : Nat} [AppT P t e (Enc.n α) bytes] {s x : Operand} {tk : Tok} {rows : List (List C)} {xs : List α} {m : Nat} {cs : List C} (ys : List α) (ho : o.op = .call { callee := .builtin .append, args := #[s, x], argTypes := #[t, t] }) (hs : evC st s = .own n ver m) (hG : st.G n = some (.arr ver wv e (Enc.n α) m cs)) (hc : cs = az xs) (hm : m = xs.length) (hx : evC st x = .list rows tk) (hy : rows = ys.map cells) (hb : (xs.length + ys.length) * bytes ≤ 140737488355328) (hmax : xs.length + ys.length ≤ 9223372036854775807)
  (h : ∀ v : Nat, K (St.put { st with G := ai st.G n (.arr v wv e (Enc.n α) (xs ++ ys).length (az (xs ++ ys))) } o.dst (.own n v (xs ++ ys).length))) : EStep P o st K := by
 subst hc; subst hm; subst hy
 by_cases h0 : ys = []
 ·subst h0
  have h1 := h ver
  simp only [List.append_nil] at h1
  have h2 : ai st.G n (.arr ver wv e (Enc.n α) xs.length (az xs)) = st.G := by
   funext k
   simp only [ai]
   split
   ·rename_i e; rw [e, hG]
   ·rfl
  rw [h2] at h1
  exact SStep.e' (NStep.s (D := fun _ => True) (uqp ho hs hx)) h1
 ·refine us8 ho hs hG hx (na ys) (by simpa using hb) (by simpa using hmax) (by simpa using h0) ?_
  have h1 := h (ver + 1)
  rw [uim] at h1
  simpa [az] using h1
end
end Go.AB
namespace Go.AB
open Go Go.RowKit
open Go.AB.Enc (cells)
open Go.PB (ay aj PlaceD bg bi bh bn ak ah cr bq dr dt)
/-- the first of some numbers that is not nought -/
def orN (xs : List Int) : Int := (xs.find? fun x => !decide (x = 0)).getD 0
theorem up2 {xs : List Int} {k : Nat} {x : Int} (hx : xs[k]? = some x) (hne : x ≠ 0) (h : ∀ y ∈ xs.take k, y = 0) : orN xs = x := by
 unfold orN
 rw [List.find?_eq_some_iff_append.2 ⟨by simpa using hne, xs.take k, xs.drop (k + 1), ?_, fun y hy => by simp [h y hy]⟩]
 ·rfl
 obtain ⟨h1, h2⟩ := List.getElem?_eq_some_iff.1 hx
 rw [← h2, ← List.drop_eq_getElem_cons h1, List.take_append_drop]
theorem up4 {xs : List Int} (h : ∀ y ∈ xs, y = 0) : orN xs = 0 := by
 unfold orN
 rw [List.find?_eq_none.2 fun y hy => by simp [h y hy]]
 rfl
theorem uqx {α : Type} {l : List α} {k : Nat} {x : α} {p : α → Prop} (hx : l[k]? = some x) (hp : p x) (h : ∀ y ∈ l.take k, p y) : ∀ y ∈ l.take (k + 1), p y := fun y hy => by
 rw [List.take_add_one, hx] at hy
 simp only [Option.toList_some, List.mem_append, List.mem_singleton] at hy
 rcases hy with hy | rfl
 ·exact h y hy
 exact hp
def n7 (a b : PlaceD) : Int := f5 (dn a) (dn b)
theorem up3 (a b : PlaceD) : orN [jd a.ch b.ch, jd a.ln b.ln, jd a.wd b.wd] = n7 a b := by
 unfold orN n7 dn
 simp only [f5]
 by_cases h1 : jd a.ch b.ch = 0
 ·by_cases h2 : jd a.ln b.ln = 0
  ·by_cases h3 : jd a.wd b.wd = 0 <;> simp [h1, h2, h3]
  simp [h1, h2]
 simp [h1]
/-- the order of lists, shorter ones first -/
def ubr (a b : List Int) : Int := orN [(a.length : Int) - (b.length : Int), f5 a b]
theorem zc (a b : List Int) : decide (ubr a b < 0) = jo a b := by
 unfold ubr orN jo
 by_cases h1 : (a.length : Int) - (b.length : Int) = 0
 ·have h2 : a.length = b.length := by omega
  have h3 : ¬ a.length < b.length := by omega
  by_cases h4 : f5 a b = 0
  ·simp [h2, h4]
  simp [h2, h4]
 have h2 : ¬ a.length = b.length := by omega
 by_cases h3 : a.length < b.length
 ·have : (a.length : Int) - (b.length : Int) < 0 := by omega
  simp [h1, h2, h3, this]
 have : ¬ (a.length : Int) - (b.length : Int) < 0 := by omega
 simp [h1, h2, h3, this]
def ou (t : aj) (k : Nat) : List Int := (List.range k).map fun i => (gq t i : Int)
theorem uer (t : aj) (k : Nat) : (ou t k).length = k := by simp [ou]
theorem ues {t : aj} {k i : Nat} (h : i < k) : (ou t k)[i]? = some (gq t i : Int) := by simp [ou, h]
theorem um3 (t : aj) (k : Nat) : ou t (k + 1) = ou t k ++ [(gq t k : Int)] := by
 unfold ou
 rw [List.range_succ, List.map_append]; rfl
theorem y8 {t : aj} (ht : ed t = true) (k : Nat) (hk : k ≤ t.length) : gq t k ≤ 60 := by
 obtain ⟨h1, h2, h3⟩ := mx ht
 have key : ∀ k, k ≤ t.length → gq t k ≤ 10 * k := by
  intro k
  induction k with
  | zero => intro _; rw [uet]; exact Nat.zero_le _
  | succ k ih =>
   intro hk
   have hc : t[k]? = some t[k] := List.getElem?_eq_getElem (by omega)
   rw [wh hc]
   have := ih (by omega)
   have := (h3 _ (gh hc)).2.1
   omega
 have := key k hk
 omega
end Go.AB
namespace Go.Proofs.YtgffhbbcpgdjjaaGreatDoor
set_option maxRecDepth 10000
open Go.RowKit Go.AB
open Go.AB.Enc (cells)
open Go.PB (ay aj PlaceD bg bi bh bn ak ah cr bq dr dt)
theorem ugf (xs : List Int) : Pure Tryz.prog 75 [lst xs] (.v (.int .i64 (orN xs))) := by
 refine dg Tryz.func75 rfl (fun m => .v) fun G nx => ?_
 simp only [Tryz.ntmps75, List.length_cons, List.length_nil, Nat.reduceAdd, Nat.reduceSub]
 refine cb fun hlt => ?_
 dsimp only at hlt
 refine l9 0 (fun hf => ?_)
 replace hf := (fit_lst.1 hf).1
 refine yS fun _ K1 => ?_
 refine yR ?_
 refine yA rfl rfl ?_
 refine yN ?_
 dsimp only [St.put]
 refine K1 _ ?_
 refine yS fun _ K2 => ?_
 refine yR ?_
 refine yA rfl rfl ?_
 refine yN ?_
 dsimp only [St.put]
 refine K2 _ ?_
 refine yS fun _ K3 => ?_
 refine yS fun _ K4 => ?_
 refine yR ?_
 refine yM rfl rfl ?_
 refine aa rfl (bp rfl rfl (List.length_map _)) ?_
 refine yM rfl rfl ?_
 refine yN ?_
 dsimp only [St.put]
 refine K4 _ ?_
 refine bf ?_
 refine cm 9 ?_
 refine zQ ?_
 refine dm (G) zX ?_
 dsimp only
 refine dj (X := Nat) (fun k => k ≤ xs.length ∧ ∀ y ∈ xs.take k, y = 0) (fun k => xs.length - k) (fun k => [(4, .any), (5, .any), (8, .v (.int .i64 (k : Int)))]) (fun k G' => G') 0 rfl ?_ ?_ (fun _ _ h => h) ?_ ?_ ?_
 ·exact ⟨by simp, by simp⟩
 ·exact zF
 ·rintro k hI
  exact zL
 ·exact fun _ _ _ _ h => .inl h
 rintro k hI
 dsimp only at hI ⊢
 refine yS fun _ K5 => ?_
 refine yR ?_
 refine aa rfl (ck rfl rfl rfl) ?_
 refine yN ?_
 dsimp only [St.put]
 refine K5 _ ?_
 refine yS fun _ K6 => ?_
 refine aq rfl (fun hc => ?_) (fun hc => ?_)
 ·replace hc := of_decide_eq_true hc
  obtain ⟨x, hx⟩ : ∃ x, xs[k]? = some x := dl (by omega)
  refine ax ?_
  refine K6 _ ?_
  refine yS fun _ K7 => ?_
  refine bf ?_
  refine yS fun _ K8 => ?_
  refine yR ?_
  refine aa rfl (bw rfl rfl rfl rfl (bu (by assumption)) (Enc.len _)) ?_
  refine yL rfl rfl rfl ?_
  refine yA rfl rfl ?_
  refine yN ?_
  dsimp only [St.put]
  refine K8 _ ?_
  refine yS fun _ K9 => ?_
  refine yR ?_
  refine yM rfl rfl ?_
  refine yM rfl rfl ?_
  refine aa rfl (gk rfl rfl rfl) ?_
  refine yN ?_
  dsimp only [St.put]
  refine K9 _ ?_
  refine aq rfl (fun hc => ?_) (fun hc => ?_)
  ·replace hc := ke hc
   refine yS fun _ K10 => ?_
   refine yR ?_
   refine yM rfl rfl ?_
   refine yA rfl rfl ?_
   refine yN ?_
   dsimp only [St.put]
   refine K10 _ ?_
   refine ar ?_
   refine bj rfl (by constructor) zN zS ?_
   exact vi (up2 hx hc hI.2).symm
  replace hc := i5 hc
  refine ax ?_
  refine K7 _ ?_
  refine yR ?_
  refine aa rfl (br rfl rfl rfl (by omega)) ?_
  refine yM rfl rfl ?_
  refine yN ?_
  dsimp only [St.put]
  exact ⟨k + 1, by omega, ⟨by omega, uqx hx hc hI.2⟩, ⟨⟨rfl, rfl⟩, zF, zB, zN, zX⟩⟩
 try replace hc := of_decide_eq_false hc
 refine c6 ?_
 refine K3 _ ?_
 refine yS fun _ K11 => ?_
 refine yR ?_
 refine yM rfl rfl ?_
 refine yA rfl rfl ?_
 refine yN ?_
 dsimp only [St.put]
 refine K11 _ ?_
 refine ar ?_
 refine bj rfl (by constructor) zN zS ?_
 exact vi (by
  rw [up4]
  have := hI.2
  rwa [ia (by omega)] at this)
theorem ups (n lo hi : Int) : Pure Tryz.prog 70 [.v (.int .i64 n), .elem [.v (.int .i64 lo)], .elem [.v (.int .i64 hi)]] (.v (.bool (ow n lo hi))) := by
 refine dg Tryz.func70 rfl (fun m => .v) fun G nx => ?_
 simp only [Tryz.ntmps70, List.length_cons, List.length_nil, Nat.reduceAdd, Nat.reduceSub]
 refine cb fun hlt => ?_
 dsimp only at hlt
 refine yS fun _ K1 => ?_
 refine yR ?_
 refine yA rfl rfl ?_
 refine yN ?_
 dsimp only [St.put]
 refine K1 _ ?_
 refine yS fun _ K2 => ?_
 refine yR ?_
 refine yM rfl rfl ?_
 refine yL rfl rfl rfl ?_
 refine aa rfl (ck rfl rfl rfl) ?_
 refine ff (fun hs => ?_) (fun hs => ?_)
 ·try replace hs := of_decide_eq_true hs
  refine yM rfl rfl ?_
  refine yK rfl ?_
  refine yK rfl ?_
  refine yK rfl ?_
  refine aa rfl (ci rfl rfl (by constructor)) ?_
  refine yA rfl rfl ?_
  refine yN ?_
  dsimp only [St.put]
  refine K2 _ ?_
  refine ar ?_
  refine bj rfl (by constructor) zN zS ?_
  exact vb (by simp [ow, hs]; try omega)
 try replace hs := of_decide_eq_false hs
 refine yM rfl rfl ?_
 refine yM rfl rfl ?_
 refine yL rfl rfl rfl ?_
 refine aa rfl (ir rfl rfl rfl) ?_
 refine aa rfl (cz rfl rfl (by constructor)) ?_
 refine yA rfl rfl ?_
 refine yN ?_
 dsimp only [St.put]
 refine K2 _ ?_
 refine ar ?_
 refine bj rfl (by constructor) zN zS ?_
 exact vb (by simp [ow, hs]; try omega)
theorem pu (lo hi : Int) (xs : List Int) : Pure Tryz.prog 46 [.v (.int .i64 lo), .v (.int .i64 hi), lst xs] (.v (.bool (uaj lo hi xs))) := by
 refine dg Tryz.func46 rfl (fun m => .v) fun G nx => ?_
 simp only [Tryz.ntmps46, List.length_cons, List.length_nil, Nat.reduceAdd, Nat.reduceSub]
 refine cb fun hlt => ?_
 dsimp only at hlt
 refine yS fun _ K1 => ?_
 refine yR ?_
 try dsimp only [St.put]
 refine yB rfl rfl rfl ?_
 try dsimp only [St.put]
 refine yB rfl rfl rfl ?_
 refine yA rfl rfl ?_
 refine yN ?_
 dsimp only [St.put]
 refine K1 _ ?_
 refine yS fun _ K2 => ?_
 refine yR ?_
 refine yM rfl rfl ?_
 refine aa rfl (tn rfl rfl) ?_
 try dsimp only [St.put]
 refine ae rfl (ba rfl rfl rfl (ua8 xs (fun n => ow n lo hi) _ _ fun x _ => ups x lo hi) ?_)
 refine aa rfl (ei rfl rfl) ?_
 refine yA rfl rfl ?_
 refine yN ?_
 dsimp only [St.put]
 refine K2 _ ?_
 refine ar ?_
 refine bj rfl (by constructor) zN zS ?_
 rfl
theorem uca (a b : PlaceD) : Pure Tryz.prog 67 [val a, val b] (.v (.int .i64 (n7 a b))) := by
 refine dg Tryz.func67 rfl (fun m => .v) fun G nx => ?_
 simp only [Tryz.ntmps67, List.length_cons, List.length_nil, Nat.reduceAdd, Nat.reduceSub]
 refine cb fun hlt => ?_
 dsimp only at hlt
 refine yS fun _ K1 => ?_
 refine yR ?_
 try dsimp only [St.put]
 refine yB rfl rfl rfl ?_
 try dsimp only [St.put]
 refine yB rfl rfl rfl ?_
 refine yA rfl rfl ?_
 refine yN ?_
 dsimp only [St.put]
 refine K1 _ ?_
 refine yS fun _ K2 => ?_
 refine fw [(0, none), (1, none), (2, none), (3, none), (5, none), (6, none), (7, none), (8, none), (10, none), (11, none), (12, none), (13, none), (4, none), (9, none), (14, none), (15, none), (16, none), (17, none)] (fun i => [14, 15, 16].contains i) (fun i => [4, 9, 14, 15, 16].contains i) (fun i => [0, 2, 5, 7, 10, 12, 17].contains i) [] (by kernel_rfl) (by kernel_rfl) ?_
 refine af rfl rfl rfl rfl (cp rfl rfl rfl) ?_
 try dsimp only [St.put]
 refine aw rfl rfl rfl rfl (ca rfl rfl) ?_
 refine af rfl rfl rfl rfl (cp rfl rfl rfl) ?_
 try dsimp only [St.put]
 refine aw rfl rfl rfl rfl (ca rfl rfl) ?_
 refine af rfl rfl rfl rfl (cp rfl rfl rfl) ?_
 try dsimp only [St.put]
 refine aw rfl rfl rfl rfl (ca rfl rfl) ?_
 refine af rfl rfl rfl rfl (cp rfl rfl rfl) ?_
 try dsimp only [St.put]
 refine aw rfl rfl rfl rfl (ca rfl rfl) ?_
 refine af rfl rfl rfl rfl (cp rfl rfl rfl) ?_
 try dsimp only [St.put]
 refine aw rfl rfl rfl rfl (ca rfl rfl) ?_
 refine af rfl rfl rfl rfl (cp rfl rfl rfl) ?_
 try dsimp only [St.put]
 refine aw rfl rfl rfl rfl (ca rfl rfl) ?_
 refine gu ?_
 try dsimp only [St.put]
 refine ij rfl rfl rfl (ba rfl rfl rfl (uaw _ _) ⟨zD, ?_⟩)
 try dsimp only [St.put]
 refine ij rfl rfl rfl (ba rfl rfl rfl (uaw _ _) ⟨zD, ?_⟩)
 try dsimp only [St.put]
 refine f4 rfl rfl rfl rfl (ba rfl rfl rfl (uaw _ _) ?_)
 try dsimp only [St.put]
 refine f4 rfl rfl rfl rfl (ef rfl rfl rfl (by decide) (by decide) zR (by decide) ?_)
 try dsimp only [St.put]
 refine f4 rfl rfl rfl rfl (ba rfl rfl rfl (ugf [jd a.ch b.ch, jd a.ln b.ln, jd a.wd b.wd]) ?_)
 refine ec rfl rfl rfl rfl (dp rfl (by constructor)) ?_
 refine gt ?_
 dsimp only [St.put]
 refine K2 _ ?_
 refine ar ?_
 refine bj rfl (by constructor) zN zS ?_
 exact vi (up3 a b)
theorem upo (a b : List Int) (ha : a.length ≤ 1000) (hb : b.length ≤ 1000) : Pure Tryz.prog 57 [lst a, lst b] (.v (.int .i64 (ubr a b))) := by
 refine dg Tryz.func57 rfl (fun m => .v) fun G nx => ?_
 simp only [Tryz.ntmps57, List.length_cons, List.length_nil, Nat.reduceAdd, Nat.reduceSub]
 refine cb fun hlt => ?_
 dsimp only at hlt
 refine yS fun _ K1 => ?_
 refine yR ?_
 refine yA rfl rfl ?_
 refine yN ?_
 dsimp only [St.put]
 refine K1 _ ?_
 refine yS fun _ K2 => ?_
 refine yR ?_
 refine yM rfl rfl ?_
 refine aa rfl (bp rfl rfl (List.length_map _)) ?_
 refine yM rfl rfl ?_
 refine aa rfl (bp rfl rfl (List.length_map _)) ?_
 refine aa rfl (gr rfl rfl rfl (by omega)) ?_
 refine yM rfl rfl ?_
 refine yM rfl rfl ?_
 try dsimp only [St.put]
 refine ae rfl (ba rfl rfl rfl (ute a b ha hb) ?_)
 try dsimp only [St.put]
 refine ae rfl (ef rfl rfl rfl (by decide) (by decide) zR (by decide) ?_)
 try dsimp only [St.put]
 refine ae rfl (ba rfl rfl rfl (ugf [(a.length : Int) - (b.length : Int), f5 a b]) ?_)
 refine yA rfl rfl ?_
 refine yN ?_
 dsimp only [St.put]
 refine K2 _ ?_
 refine ar ?_
 refine bj rfl (by constructor) zN zS ?_
 rfl
theorem upn (t : aj) (q : PlaceD) (ht : ed t = true) : Pure Tryz.prog 66 [gx t, val q] (.v (.bool (gj t q))) := by
 refine dg Tryz.func66 rfl (fun m => .v) fun G nx => ?_
 simp only [Tryz.ntmps66, List.length_cons, List.length_nil, Nat.reduceAdd, Nat.reduceSub]
 refine cb fun hlt => ?_
 dsimp only at hlt
 obtain ⟨hl1, hl2, hl3⟩ := mx ht
 refine yS fun _ K1 => ?_
 refine yR ?_
 try dsimp only [St.put]
 refine yB rfl rfl rfl ?_
 try dsimp only [St.put]
 refine yB rfl rfl rfl ?_
 refine yA rfl rfl ?_
 refine yN ?_
 dsimp only [St.put]
 refine K1 _ ?_
 refine yS fun _ K2 => ?_
 refine cm 5 ?_
 refine zQ ?_
 refine lf (X := Bool) (fun b => b = !(ix t (q.ch, q.ln)).isSome) (fun b => [(29, .v (.bool b))]) (fun b G' => G') rfl ?_ (fun _ _ _ _ h => .inl h) ?_ ?_
 ·rintro b hI
  exact zL
 ·refine t8 [(0, none), (1, none), (2, none), (3, none), (4, none), (5, none)] (fun _ => false) (fun i => [0, 2, 3, 4].contains i) 19 (rl [6, 19]) (by kernel_rfl) (by kernel_rfl) ?_
  refine af rfl rfl rfl rfl (cp rfl rfl rfl) ?_
  try dsimp only [St.put]
  refine aw rfl rfl rfl rfl (ca rfl rfl) ?_
  refine af rfl rfl rfl rfl (bp rfl rfl (List.length_map _)) ?_
  refine af rfl rfl rfl rfl (gr rfl rfl rfl (by omega)) ?_
  refine af rfl rfl rfl rfl (cp rfl rfl rfl) ?_
  try dsimp only [St.put]
  refine aw rfl rfl rfl rfl (ca rfl rfl) ?_
  refine cw ?_
  refine em [6] (by kernel_rfl) (by simp) ?_
  refine ep ?_ ?_
  ·try dsimp only [St.put]
   refine jp rfl rfl rfl (ef rfl rfl rfl (by decide) (by decide) zR (by decide) ?_)
   refine em [7] (by kernel_rfl) (by simp) ?_
   refine ep ?_ ?_
   ·try dsimp only [St.put]
    refine jp rfl rfl rfl (ba rfl rfl rfl (pu _ _ [_]) ?_)
    refine fp [(8, none), (9, none), (10, none), (11, none), (12, none), (13, none), (14, none), (15, none), (16, none), (17, none), (18, none), (19, none), (20, none)] (fun i => [8, 9, 10, 12, 14, 15, 17, 18, 19].contains i) 4 (rl [21, 4]) (by kernel_rfl) ?_
    refine af rfl rfl rfl rfl (ei rfl rfl) ?_
    refine xM rfl rfl rfl rfl rfl ?_
    refine lg (fun hs => ?_) (fun hs => ?_)
    ·have h8 : inB q.ch 0 ((t.length : Int) - 1) = false := by rw [ig] at hs; simpa using hs
     refine am rfl rfl rfl ?_
     refine am rfl rfl rfl ?_
     refine am rfl rfl rfl ?_
     refine am rfl rfl rfl ?_
     refine am rfl rfl rfl ?_
     refine am rfl rfl rfl ?_
     refine am rfl rfl rfl ?_
     refine am rfl rfl rfl ?_
     refine am rfl rfl rfl ?_
     refine am rfl rfl rfl ?_
     refine am rfl rfl rfl ?_
     refine cw ?_
     refine em [21] (by kernel_rfl) (by simp) ?_
     refine ep ?_ ?_
     ·refine g8 rfl rfl rfl ?_
      refine em [22] (by kernel_rfl) (by simp) ?_
      refine ep ?_ ?_
      ·refine g8 rfl rfl rfl ?_
       refine fp [(23, none), (24, none)] (fun i => [23, 24].contains i) 0 (rl [25]) (by kernel_rfl) ?_
       refine am rfl rfl rfl ?_
       refine af rfl rfl rfl rfl (ci rfl rfl (by constructor)) ?_
       refine cw ?_
       dsimp only [St.put]
       refine i9 (by kernel_rfl) ?_
       refine ⟨_, ?_, ⟨⟨rfl, rfl⟩, zF, zB, zN, zX⟩⟩
       rw [yv]
       (simp [h8]; done)
      exact eo
     exact eo
    have h8 : inB q.ch 0 ((t.length : Int) - 1) = true := by rw [ig] at hs; simpa using hs
    have hn1' := h8
    simp only [inB_true] at hn1'
    obtain ⟨c, hcx⟩ : ∃ c, t[q.ch.toNat]? = some c := dl (by omega)
    have hnl : m4 t q.ch = c.lines.length := by simp [m4, hcx]
    have hll := (hl3 c (gh hcx)).2.1
    have hch : q.ch = ((q.ch.toNat : Nat) : Int) := by omega
    refine af rfl rfl rfl rfl (cp rfl rfl rfl) ?_
    try dsimp only [St.put]
    refine aw rfl rfl rfl rfl (ca rfl rfl) ?_
    refine af rfl rfl rfl rfl (cp rfl rfl rfl) ?_
    try dsimp only [St.put]
    refine aw rfl rfl rfl rfl (ca rfl rfl) ?_
    try dsimp only [St.put]
    refine af rfl rfl rfl rfl (bw rfl rfl rfl (by omega) (bu (by assumption)) (Enc.len _)) ?_
    refine af rfl rfl rfl rfl (cp rfl rfl rfl) ?_
    try dsimp only [St.put]
    refine aw rfl rfl rfl rfl (ca rfl rfl) ?_
    refine af rfl rfl rfl rfl (bp rfl rfl (List.length_map _)) ?_
    refine af rfl rfl rfl rfl (gr rfl rfl rfl (by omega)) ?_
    refine af rfl rfl rfl rfl (cp rfl rfl rfl) ?_
    try dsimp only [St.put]
    refine aw rfl rfl rfl rfl (ca rfl rfl) ?_
    refine cw ?_
    refine em [21] (by kernel_rfl) (by simp) ?_
    refine ep ?_ ?_
    ·try dsimp only [St.put]
     refine jp rfl rfl rfl (ef rfl rfl rfl (by decide) (by decide) zR (by decide) ?_)
     refine em [22] (by kernel_rfl) (by simp) ?_
     refine ep ?_ ?_
     ·try dsimp only [St.put]
      refine jp rfl rfl rfl (ba rfl rfl rfl (pu _ _ [_]) ?_)
      refine fp [(23, none), (24, none)] (fun i => [23, 24].contains i) 0 (rl [25]) (by kernel_rfl) ?_
      refine af rfl rfl rfl rfl (ei rfl rfl) ?_
      refine af rfl rfl rfl rfl (cz rfl rfl (by constructor)) ?_
      refine cw ?_
      dsimp only [St.put]
      refine i9 (by kernel_rfl) ?_
      refine ⟨_, ?_, ⟨⟨rfl, rfl⟩, zF, zB, zN, zX⟩⟩
      rw [yv]
      (simp [h8, hnl, ig]; done)
     exact eo
    exact eo
   exact eo
  exact eo
 rintro b hst
 dsimp only at hst ⊢
 refine aq rfl (fun hc => ?_) (fun hc => ?_)
 ·have hw : ix t (q.ch, q.ln) = none := by rw [hc] at hst; simpa using hst.symm
  refine yS fun _ K4 => ?_
  refine yR ?_
  refine yA rfl rfl ?_
  refine yN ?_
  dsimp only [St.put]
  refine K4 _ ?_
  refine ar ?_
  refine bj rfl (by constructor) zN zS ?_
  exact vb (by unfold gj; rw [hw])
 have hw0 : (ix t (q.ch, q.ln)).isSome = true := by rw [hc] at hst; simpa using hst.symm
 obtain ⟨l, hw⟩ := Option.isSome_iff_exists.1 hw0
 obtain ⟨k, n, c, hkn, hk, hn⟩ := v8 hw
 have hch : q.ch = ((k : Nat) : Int) := congrArg Prod.fst hkn
 have hln : q.ln = ((n : Nat) : Int) := congrArg Prod.snd hkn
 have hwl := yr ht hw
 refine ax ?_
 refine K2 _ ?_
 refine yS fun _ K5 => ?_
 refine fw [(0, none), (1, none), (2, none), (3, none), (4, none), (5, none), (6, none), (7, none), (8, none), (9, none), (10, none), (11, none), (12, none), (13, none), (14, none), (15, none), (16, none), (17, none)] (fun i => [16].contains i) (fun i => [15, 16].contains i) (fun i => [0, 2, 4, 5, 7, 9, 11, 12, 13, 17].contains i) [] (by kernel_rfl) (by kernel_rfl) ?_
 refine af rfl rfl rfl rfl (cp rfl rfl rfl) ?_
 try dsimp only [St.put]
 refine aw rfl rfl rfl rfl (ca rfl rfl) ?_
 refine af rfl rfl rfl rfl (cp rfl rfl rfl) ?_
 try dsimp only [St.put]
 refine aw rfl rfl rfl rfl (ca rfl rfl) ?_
 try dsimp only [St.put]
 refine af rfl rfl rfl rfl (bw rfl rfl rfl (by omega) (bu (by assumption)) (Enc.len _)) ?_
 refine af rfl rfl rfl rfl (cp rfl rfl rfl) ?_
 try dsimp only [St.put]
 refine aw rfl rfl rfl rfl (ca rfl rfl) ?_
 refine af rfl rfl rfl rfl (cp rfl rfl rfl) ?_
 try dsimp only [St.put]
 refine aw rfl rfl rfl rfl (ca rfl rfl) ?_
 try dsimp only [St.put]
 refine af rfl rfl rfl rfl (bw rfl rfl rfl (by omega) (bu (by assumption)) (Enc.len _)) ?_
 try dsimp only [St.put]
 refine aw rfl rfl rfl rfl (ca rfl rfl) ?_
 refine af rfl rfl rfl rfl (bp rfl rfl (List.length_map _)) ?_
 refine af rfl rfl rfl rfl (gr rfl rfl rfl (by omega)) ?_
 refine af rfl rfl rfl rfl (cp rfl rfl rfl) ?_
 try dsimp only [St.put]
 refine aw rfl rfl rfl rfl (ca rfl rfl) ?_
 refine gu ?_
 try dsimp only [St.put]
 refine ij rfl rfl rfl (ef rfl rfl rfl (by decide) (by decide) zR (by decide) ⟨zD, ?_⟩)
 try dsimp only [St.put]
 refine f4 rfl rfl rfl rfl (ba rfl rfl rfl (pu _ _ [_]) ?_)
 refine ec rfl rfl rfl rfl (dp rfl (by constructor)) ?_
 refine gt ?_
 dsimp only [St.put]
 refine K5 _ ?_
 refine ar ?_
 refine bj rfl (by constructor) zN zS ?_
 exact vb (by unfold gj; rw [hw, ig])
theorem upr (t : aj) (ht : ed t = true) : Pure Tryz.prog 65 [gx t] (.tup [lst (ou t t.length), .v (.int .i64 (ox t : Int))]) := by
 refine dg Tryz.func65 rfl (fun m => .tup (ce (bv _ _) (ce .v dq))) fun G nx => ?_
 simp only [Tryz.ntmps65, List.length_cons, List.length_nil, Nat.reduceAdd, Nat.reduceSub]
 refine cb fun hlt => ?_
 dsimp only at hlt
 obtain ⟨hl1, hl2, hl3⟩ := mx ht
 refine yS fun _ K1 => ?_
 refine yR ?_
 try dsimp only [St.put]
 refine yB rfl rfl rfl ?_
 refine yA rfl rfl ?_
 refine yA rfl rfl ?_
 refine yN ?_
 dsimp only [St.put]
 refine K1 _ ?_
 refine yS fun _ K2 => ?_
 refine yR ?_
 refine yA rfl rfl ?_
 refine yN ?_
 dsimp only [St.put]
 refine K2 _ ?_
 refine qh 4 3 1 rfl (by decide) ?_
 dsimp only [List.set_cons_zero, List.set_cons_succ]
 refine yS fun _ K3 => ?_
 refine yR ?_
 refine yA rfl rfl ?_
 refine yN ?_
 dsimp only [St.put]
 refine K3 _ ?_
 refine yS fun _ K4 => ?_
 refine yS fun _ K5 => ?_
 refine yR ?_
 refine yF rfl rfl rfl rfl ?_
 refine yL rfl rfl rfl ?_
 refine aa rfl (bp rfl rfl (List.length_map _)) ?_
 refine yM rfl rfl ?_
 refine yN ?_
 dsimp only [St.put]
 refine K5 _ ?_
 refine bf ?_
 refine cm 12 ?_
 refine zQ ?_
 refine dm (ai G nx (.tip 0 3 1)) zX ?_
 dsimp only
 refine dj (X := Nat) (fun k => k ≤ t.length) (fun k => t.length - k) (fun k => [(4, .list ((ou t k).map cells) (.tip nx)), (5, .v (.int .i64 (gq t k : Int))), (7, .any), (11, .v (.int .i64 (k : Int)))]) (fun k G' => ai G nx (.tip (ou t k).length 3 1)) 0 rfl ?_ ?_ ?_ ?_ ?_ ?_
 ·exact Nat.zero_le _
 ·exact zF
 ·exact zX
 ·rintro k hI
  exact zL
 ·rintro k hI
  exact zH
 rintro k hI
 dsimp only at hI ⊢
 refine yS fun _ K6 => ?_
 refine yR ?_
 refine aa rfl (ck rfl rfl rfl) ?_
 refine yN ?_
 dsimp only [St.put]
 refine K6 _ ?_
 refine yS fun _ K7 => ?_
 refine aq rfl (fun hc => ?_) (fun hc => ?_)
 ·replace hc := of_decide_eq_true hc
  obtain ⟨c, hcx⟩ : ∃ c, t[k]? = some c := dl (by omega)
  have hll := (hl3 c (gh hcx)).2.1
  have hsl := y8 ht k (by omega)
  have hst : ((gq t (k + 1) : Nat) : Int) = (gq t k : Int) + (c.lines.length : Int) := by rw [wh hcx]; omega
  have hln := uer t k
  refine ax ?_
  refine K7 _ ?_
  refine yS fun _ K8 => ?_
  refine bf ?_
  refine yS fun _ K9 => ?_
  refine yR ?_
  refine aa rfl (bw rfl rfl rfl rfl (bu (by assumption)) (Enc.len _)) ?_
  refine yE rfl rfl rfl ?_
  try dsimp only [St.put]
  refine ae rfl (dx rfl ?_)
  try dsimp only [St.put]
  refine ae rfl (di rfl rfl rfl zG rfl rfl (by rfl) ?_)
  refine yN ?_
  dsimp only [St.put]
  refine K9 _ ?_
  refine gg (i := 7) rfl zG zC ?_
  dsimp only
  refine yS fun _ K10 => ?_
  refine yR ?_
  refine yM rfl rfl ?_
  refine yM rfl rfl ?_
  try dsimp only [St.put]
  refine ae rfl (ef rfl rfl rfl (by decide) (by decide) zR (by decide) ?_)
  try dsimp only [St.put]
  refine ae rfl (jz ([(gq t k : Int)]) rfl rfl zG zE rfl rfl zA ?_ zA)
  refine yA rfl rfl ?_
  refine yN ?_
  dsimp only [St.put]
  refine K10 _ ?_
  refine yR ?_
  refine yM rfl rfl ?_
  refine yF rfl rfl rfl rfl ?_
  refine yL rfl rfl rfl ?_
  refine aa rfl (bp rfl rfl (List.length_map _)) ?_
  refine aa rfl (br rfl rfl rfl (by omega)) ?_
  refine yA rfl rfl ?_
  refine yN ?_
  dsimp only [St.put]
  refine K8 _ ?_
  refine yR ?_
  refine aa rfl (br rfl rfl rfl (by omega)) ?_
  refine yM rfl rfl ?_
  refine yN ?_
  dsimp only [St.put]
  rw [← hst]
  simp only [← um3]
  exact ⟨k + 1, by omega, by omega, ⟨⟨rfl, rfl⟩, zF, zB, zN, zX⟩⟩
 replace hc := of_decide_eq_false hc
 obtain rfl : k = t.length := by omega
 refine c6 ?_
 refine K4 _ ?_
 refine yS fun _ K11 => ?_
 refine yR ?_
 refine yM rfl rfl ?_
 refine yM rfl rfl ?_
 refine yA rfl rfl ?_
 refine yA rfl rfl ?_
 refine yN ?_
 dsimp only [St.put]
 refine K11 _ ?_
 refine ar ?_
 refine i7 rfl (ey (by constructor)) (ey (by constructor)) zN zS ?_ ?_
 ·exact zW
 exact Wk.of_eq (vi rfl)
end Go.Proofs.YtgffhbbcpgdjjaaGreatDoor
namespace Go.AB
open Go Go.RowKit Go.ChangeShapes Go.WideShapes
open Go.AB.Enc (cells)
open Go.PB (ay aj PlaceD bg bi bh)
/-- What is read along a type is a datum. -/
class OpensE (P : Program) (t : TypeId) (α : Type) [Enc α] : Prop where
 n : P.cellsOf t = Enc.n α
 op : ∀ {H : Type} {enc : TypeId × Value → H} {w : World} {base : Nat} {spare : Nat → Bool} {held : Bool} {fuel : Nat} {cs : List Value} {x : DataW H × List MemPlace}, DataW.trod enc P w base spare held fuel t cs = some x → ∃ a : α, Rs (jm w) w (cells a) cs
def uai (P : Program) (t : TypeId) (k : IntKind) : Bool := match P.underlying t with | some (.int k') => k' == k && P.cellsOf t == 1 | _ => false
def ubm (P : Program) (t : TypeId) : Bool := match P.underlying t with | some .string => P.cellsOf t == 1 | _ => false
def wj (P : Program) (t e : TypeId) : Bool := match P.underlying t with | some (.slice e') => e' == e && P.cellsOf t == 1 | _ => false
def ku (P : Program) (t : TypeId) (l : List (Nat × TypeId × Nat)) (n : Nat) : Bool := match P.underlying t with
 | some (.struct fs) => (fs.toList.map fun f => (f.offset, f.type, P.cellsOf f.type)) == l && P.cellsOf t == n
 | _ => false
theorem wfI64 {n : Int} (h : (Lit.int .i64 n).wf = true) : okV (.int .i64 n) = true := by
 simp [Lit.wf, IntKind.min, IntKind.max, IntKind.signed, IntKind.bits] at h
 exact lj ⟨by omega, by omega⟩
section
variable {P : Program} {t e : TypeId}
theorem uah {k : IntKind} (h : uai P t k = true) : P.underlying t = some (.int k) ∧ P.cellsOf t = 1 := by
 unfold uai at h
 split at h
 ·rename_i k' he
  simp only [Bool.and_eq_true, beq_iff_eq] at h
  rw [he, h.1]; exact ⟨rfl, h.2⟩
 ·cases h
theorem uep (h : ubm P t = true) : P.underlying t = some .string ∧ P.cellsOf t = 1 := by
 unfold ubm at h
 split at h
 ·rename_i he; exact ⟨he, by simpa using h⟩
 ·cases h
theorem ubq (h : wj P t e = true) : P.underlying t = some (.slice e) ∧ P.cellsOf t = 1 := by
 unfold wj at h
 split at h
 ·rename_i k' he
  simp only [Bool.and_eq_true, beq_iff_eq] at h
  rw [he, h.1]; exact ⟨rfl, h.2⟩
 ·cases h
theorem Rs.single {E : Env} {w : World} {c : C} {v : Value} (h : R E w c v) : Rs E w [c] [v] := Rs.cons h Rs.nil
theorem Rs.single_inv {E : Env} {w : World} {c : C} {v : Value} (h : Rs E w [c] [v]) : R E w c v := h.2 0 c v rfl rfl
theorem OpensE.int (h : uai P t .i64 = true) : OpensE P t Int where
 n := (uah h).2
 op hx := by
  obtain ⟨n, rfl, _, h2⟩ := DataW.trod_int (uah h).1 hx
  exact ⟨n, Rs.single (.v (wfI64 h2))⟩
theorem OpensE.str (h : ubm P t = true) : OpensE P t ByteArray where
 n := (uep h).2
 op hx := by
  obtain ⟨s, rfl, _, h2⟩ := DataW.trod_string (uep h).1 hx
  exact ⟨s, Rs.single (.v (okV_str.2 (by simpa [maxLen] using h2)))⟩
theorem um4 {w : World} {a : Addr} {v : Value} (h : w.cell? a = some v) : a.spot = none := by
 unfold World.cell? at h
 split at h
 ·split at h
  ·cases h
  ·rename_i hs
   cases hsp : a.spot with
   | none => rfl
   | some s => simp [hsp] at hs
 ·cases h
theorem uhl {α : Type} {p : Nat → α → Prop} : ∀ (n : Nat), (∀ i, i < n → ∃ x, p i x) → ∃ xs : List α, xs.length = n ∧ ∀ i x, xs[i]? = some x → p i x
 | 0, _ => ⟨[], rfl, fun i x h => by simp at h⟩
 | n + 1, h => by
  obtain ⟨xs, h1, h2⟩ := uhl n fun i hi => h i (by omega)
  obtain ⟨y, hy⟩ := h n (by omega)
  refine ⟨xs ++ [y], by simp [h1], fun i x hx => ?_⟩
  by_cases hi : i < xs.length
  ·rw [List.getElem?_append_left hi] at hx; exact h2 i x hx
  ·rw [List.getElem?_append_right (by omega)] at hx
   have hz : i - xs.length = 0 := by
    have := (List.getElem?_eq_some_iff.1 hx).1
    simp at this; omega
   rw [hz] at hx
   simp at hx
   subst hx
   rw [show i = n by omega]; exact hy
theorem ufg {α : Type} [Enc α] {E : Env} {w : World} {b : Nat} : ∀ (xs : List α) (off : Nat), (∀ i x, xs[i]? = some x → ∃ es, Rs E w (cells x) es ∧ ∀ j e, es[j]? = some e → w.cell? ⟨b, off + i * Enc.n α + j, none⟩ = some e) →
  ∃ us, Rs E w (xs.map cells).flatten us ∧ ∀ j u, us[j]? = some u → w.cell? ⟨b, off + j, none⟩ = some u
 | [], off, _ => ⟨[], Rs.nil, by simp⟩
 | x :: xs, off, h => by
  obtain ⟨es, h1, h2⟩ := h 0 x rfl
  obtain ⟨us, h3, h4⟩ := ufg xs (off + Enc.n α) fun i y hy => by
   obtain ⟨fs, k1, k2⟩ := h (i + 1) y (by simpa using hy)
   exact ⟨fs, k1, fun j e he => by rw [← k2 j e he]; congr 2; rw [Nat.add_mul]; omega⟩
  have hl : es.length = Enc.n α := by rw [h1.1]; exact Enc.len x
  refine ⟨es ++ us, by rw [List.map_cons, List.flatten_cons]; exact h1.append h3, fun j u hu => ?_⟩
  by_cases hj : j < es.length
  ·rw [List.getElem?_append_left hj] at hu
   rw [← h2 j u hu]; congr 2; omega
  ·rw [List.getElem?_append_right (by omega)] at hu
   rw [← h4 _ u hu]; congr 2; omega
theorem OpensE.slice {α : Type} [Enc α] [o : OpensE P e α] (h : wj P t e = true) (hpos : 1 ≤ Enc.n α) : OpensE P t (List α) where
 n := (ubq h).2
 op {H enc w base spare held fuel cs x} hx := by
  rcases Deep.open_slice (ubq h).1 hx with ⟨rfl, _⟩ | ⟨a, len, cap, m, n, D, Pl, rfl, hb, hl, hm, hmm, _, hel⟩
  ·refine ⟨[], Rs.single ?_⟩
   exact R.mk_list (rows := []) (sz := 1) (us := []) (Nat.le_refl _) (Nat.zero_le _) (Nat.le_refl _) (by simp) (by simp) Rs.nil (.inl rfl) (by simp) (by simp) (by simp)
  ·have hlm : len ≤ m := by rw [hmm]; split <;> omega
   have hs : 0 < len → a.spot = none := fun h0 => by
    obtain ⟨cs', hc, ht⟩ := hel 0 (by omega)
    obtain ⟨_, hlen, hcell⟩ := World.cells?_some hc
    rw [o.n] at hlen hcell
    have := hcell 0 (by omega)
    rw [List.getElem?_eq_getElem (by omega)] at this
    have := um4 this
    simpa [Addr.add] using this
   obtain ⟨xs, h1, h2⟩ := uhl (p := fun i (y : α) => ∃ es, Rs (jm w) w (cells y) es ∧ ∀ j e, es[j]? = some e → w.cell? ⟨a.block, a.off + i * Enc.n α + j, none⟩ = some e) len fun i hi => by
    obtain ⟨cs', hc, ht⟩ := hel i (by omega)
    obtain ⟨y, hy⟩ := o.op ht
    obtain ⟨_, hlen, hcell⟩ := World.cells?_some hc
    rw [o.n] at hlen hcell hc
    have hs' := hs (by omega)
    refine ⟨y, cs', hy, fun j u hj => ?_⟩
    have hj' : j < Enc.n α := by rw [← hlen]; exact (List.getElem?_eq_some_iff.1 hj).1
    have := hcell j hj'
    rw [hj] at this
    rw [← this]
    obtain ⟨ab, ao, asp⟩ := a
    dsimp only at hs'
    subst hs'
    rw [rt, rt]
   subst h1
   refine ⟨xs, Rs.single ?_⟩
   obtain ⟨us, k1, k2⟩ := ufg (E := jm w) (w := w) (b := a.block) xs a.off h2
   have := R.mk_list (E := jm w) (w := w) (rows := xs.map cells) (a := some a) (cap := cap) (sz := Enc.n α) (us := us) (tok := .none) (by simpa using hl) hm hpos (na xs) (fun r hr c hc => by
    obtain ⟨x, _, rfl⟩ := List.mem_map.1 hr
    exact Enc.one x c hc) k1 (by
    by_cases hxs : xs = []
    ·subst hxs; exact .inl rfl
    ·right
     have hs' := hs (List.length_pos_iff.2 hxs)
     obtain ⟨ab, ao, asp⟩ := a
     dsimp only at hs'
     subst hs'
     refine ⟨ab, ao, rfl, ?_, k2⟩
     have h0 : 0 < us.length := by
      rw [k1.1, ni (na xs), List.length_map]
      exact Nat.mul_pos (List.length_pos_iff.2 hxs) hpos
     have := udg (k2 (us.length - 1) _ (List.getElem?_eq_getElem (by omega)))
     dsimp only at this
     show ao + us.length ≤ ro w ab
     omega) (by simp) (by simp) (by simp)
   rw [List.length_map] at this
   exact this
theorem ueq {l : List (Nat × TypeId × Nat)} {n : Nat} (h : ku P t l n = true) {H : Type} {enc : TypeId × Value → H} {w : World} {base : Nat} {spare : Nat → Bool} {held : Bool} {fuel : Nat} {cs : List Value} {x : DataW H × List MemPlace}
  (hx : DataW.trod enc P w base spare held fuel t cs = some x) : cs.length = n ∧ ∀ p ∈ l, ∃ m y, DataW.trod enc P w base spare held m p.2.1 ((cs.drop p.1).take p.2.2) = some y := by
 unfold ku at h
 split at h
 ·rename_i fs he
  simp only [Bool.and_eq_true, beq_iff_eq] at h
  obtain ⟨xs, m, _, _, hl, hlen, hf⟩ := DataW.trod_struct he hx
  refine ⟨by rw [hl, h.2], fun p hp => ?_⟩
  rw [← h.1] at hp
  obtain ⟨f, hfm, rfl⟩ := List.mem_map.1 hp
  obtain ⟨i, hi⟩ := List.getElem?_of_mem hfm
  have hi' : fs[i]? = some f := by simpa using hi
  have hlt : i < xs.length := by rw [hlen]; exact (Array.getElem?_eq_some_iff.1 hi').1
  exact ⟨m, xs[i], by rw [← List.getElem?_eq_getElem hlt]; exact hf i f hi'⟩
 ·cases h
theorem y7 {l : List (Nat × TypeId × Nat)} {n : Nat} (h : ku P t l n = true) : P.cellsOf t = n ∧ ∃ fs, P.underlying t = some (.struct fs) := by
 unfold ku at h
 split at h
 ·rename_i fs he
  simp only [Bool.and_eq_true, beq_iff_eq] at h
  exact ⟨h.2, fs, he⟩
 ·cases h
/-- A struct of one field. -/
theorem OpensE.one {α : Type} [Enc α] [o : OpensE P e α] (h : ku P t [(0, e, Enc.n α)] (Enc.n α) = true) : OpensE P t α where
 n := (y7 h).1
 op {H enc w base spare held fuel cs x} hx := by
  obtain ⟨hl, hp⟩ := ueq h hx
  obtain ⟨m, y, hy⟩ := hp _ (List.mem_cons_self ..)
  obtain ⟨a, ha⟩ := o.op hy
  dsimp only at ha
  rw [List.drop_zero, List.take_of_length_le (by omega)] at ha
  exact ⟨a, ha⟩
/-- A struct, field by field. -/
theorem OpensE.struct {α : Type} [Enc α] {l : List (Nat × TypeId × Nat)} (h : ku P t l (Enc.n α) = true)
  (b : ∀ (w : World) (cs : List Value), cs.length = Enc.n α → (∀ p ∈ l, ∀ (β : Type) (_ : Enc β), OpensE P p.2.1 β → ∃ a : β, Rs (jm w) w (cells a) ((cs.drop p.1).take p.2.2)) → ∃ a : α, Rs (jm w) w (cells a) cs) : OpensE P t α where
 n := (y7 h).1
 op {H enc w base spare held fuel cs x} hx := by
  obtain ⟨hl, hp⟩ := ueq h hx
  exact b w cs hl fun p hpl β _ o => let ⟨_, _, hy⟩ := hp p hpl; o.op hy
theorem OpensE.chap {tI tL : TypeId} [oI : OpensE P tI Int] [oL : OpensE P tL (List (List ByteArray))] (h : ku P t [(0, tI, 1), (1, tL, 1)] 2 = true) : OpensE P t ay :=
 .struct (α := ay) h fun w cs hl hp => by
  obtain ⟨a, ha⟩ := hp (0, tI, 1) (by simp) Int inferInstance oI
  obtain ⟨b, hb⟩ := hp (1, tL, 1) (by simp) (List (List ByteArray)) inferInstance oL
  match cs, hl with
  | [u, v], _ => exact ⟨⟨a, b⟩, Rs.cons (Rs.single_inv ha) hb⟩
theorem OpensE.place {tI : TypeId} [oI : OpensE P tI Int] (h : ku P t [(0, tI, 1), (1, tI, 1), (2, tI, 1)] 3 = true) : OpensE P t PlaceD :=
 .struct (α := PlaceD) h fun w cs hl hp => by
  obtain ⟨a, ha⟩ := hp (0, tI, 1) (by simp) Int inferInstance oI
  obtain ⟨b, hb⟩ := hp (1, tI, 1) (by simp) Int inferInstance oI
  obtain ⟨c, hc⟩ := hp (2, tI, 1) (by simp) Int inferInstance oI
  match cs, hl with
  | [u, v, x], _ => exact ⟨⟨a, b, c⟩, Rs.cons (Rs.single_inv ha) (Rs.cons (Rs.single_inv hb) hc)⟩
/-- An argument that is a struct; a number. -/
theorem OpensE.arg {α : Type} [Enc α] [o : OpensE P t α] {l : List (Nat × TypeId × Nat)} {n : Nat} (h : ku P t l n = true) {H : Type} {enc : TypeId × Value → H} {w : World} {base : Nat} {spare : Nat → Bool} {held : Bool} {r : Reach} {b0 : Nat} {v : Value} {d : DataW H} {ps : List MemPlace}
  (hv : Value.okWide P w r b0 t v) (hd : DataW.Trod enc P w base spare held t v d ps) : ∃ a : α, R (jm w) w (.agg (cells a)) v := by
 obtain ⟨fs, hs⟩ := (y7 h).2
 obtain ⟨cs, rfl, _⟩ := okWide_struct hs hv
 obtain ⟨fuel, hf⟩ := hd
 obtain ⟨a, ha⟩ := o.op hf
 exact ⟨a, by simpa [Value.cells] using Rs.agg ha (Enc.one a)⟩
end
theorem urm {P : Program} {f : FuncId} {cs : List C} {v fv : Value} {fc : C} (hp : PureF (.fact fv fc) P f cs (.v v)) {w : World} {args : List Value} (hF : R (jm w) w fc fv) (hr : Rs (jm w) w cs args) :
  Calls P f args.toArray w fun e w' => e = .returned v ∧ Below w.heap.size w w' := by
 obtain ⟨E1, v1, g1⟩ := uis (ukn w) hF
 refine (hp _ _ (kx _ _ _) E1 w args (hr.ev v1) g1).mono ?_
 rintro e w' ⟨r, x, E', G', nx', rfl, hev, hx, _, rfl, _⟩
 exact ⟨by rw [hx.v_inv], by have := hev.below; rw [v1.B] at this; exact this⟩
end Go.AB
namespace Go.AB
open Go Go.RowKit Go.ChangeShapes Go.WideShapes
open Go.AB.Enc (cells)
variable {P : Program} {o : Oper} {st : St}
theorem n_rem {xt yt : TypeId} {x y : Operand} {m n : Int} (ho : o.op = .binOp .rem xt x y yt) (hx : evC st x = .v (.int .i64 m)) (hy : evC st y = .v (.int .i64 n)) (hm : 0 ≤ m ∧ m ≤ 9223372036854775807) (hn : 0 < n) : NStep P o st (.v (.int .i64 (m % n))) :=
 mi ho hx hy (lj (by have h1 := Int.emod_nonneg m (b := n) (by omega); have h2 := Int.mul_ediv_add_emod m n; have h3 := Int.mul_nonneg (Int.le_of_lt hn) (Int.ediv_nonneg hm.1 (Int.le_of_lt hn)); omega)) fun w => by
  have h1 : ¬ n = 0 := by omega
  have h2 : m.tmod n = m % n := Int.tmod_eq_emod_of_nonneg hm.1
  simp [eqGuard, binOp, Op.intDiv, h1, h2]
theorem uqo {s d : TypeId} {x : Operand} {k : IntKind} {n : Int} (ho : o.op = .convert s d x) (hx : evC st x = .v (.int k n)) (hs : (P.underlying s).isSome = true) (hd : P.underlying d = some (.int .i64)) (hn : -9223372036854775808 ≤ n ∧ n ≤ 9223372036854775807) : NStep P o st (.v (.int .i64 n)) := fun E w a h => by
 have e1 := (hx ▸ h.ev x).v_inv
 refine ⟨_, .v (lj hn), fun w' => ?_⟩
 have hk : P.intKind d = .i64 := by simp [Program.intKind, hd]
 have hw : IntKind.i64.wrap n = n := by rw [IntKind.wrap_i64]; omega
 have := run_convert_int (P := P) w' s d k n hs (by rw [hk]; exact hd)
 rw [hk, hw] at this
 simp [execOp, ho, e1, this]
end Go.AB
namespace Go.AB
open Go Go.RowKit
open Go.AB.Enc (cells)
variable {P : Program} {o : Oper} {st : St}
theorem ra {xt yt : TypeId} {x y : Operand} {m n : Int} (ho : o.op = .binOp .mul xt x y yt) (hx : evC st x = .v (.int .i64 m)) (hy : evC st y = .v (.int .i64 n)) (hb : -9223372036854775808 ≤ m * n ∧ m * n ≤ 9223372036854775807) : NStep P o st (.v (.int .i64 (m * n))) :=
 mi ho hx hy (lj hb) fun w => by
  have : IntKind.i64.wrap (m * n) = m * n := by rw [IntKind.wrap_i64]; omega
  simp [eqGuard, binOp, Op.intArith, this]
theorem uv {xt yt : TypeId} {x y : Operand} {m n : Int} (ho : o.op = .binOp .quo xt x y yt) (hx : evC st x = .v (.int .i64 m)) (hy : evC st y = .v (.int .i64 n)) (hm : 0 ≤ m ∧ m ≤ 9223372036854775807) (hn : 0 < n) : NStep P o st (.v (.int .i64 (m / n))) := by
 have h3 : 0 ≤ m / n := Int.ediv_nonneg hm.1 (by omega)
 have h4 : m / n ≤ m := Int.ediv_le_self _ hm.1
 exact mi ho hx hy (lj (by omega)) fun w => by
  have h1 : ¬ n = 0 := by omega
  have h2 : m.tdiv n = m / n := Int.tdiv_eq_ediv_of_nonneg hm.1
  have h5 : IntKind.i64.wrap (m / n) = m / n := by rw [IntKind.wrap_i64]; omega
  simp [eqGuard, binOp, Op.intDiv, h1, h2, h5]
theorem ulu {n : Nat} (h : n ≤ 62) : (2 : Int) ^ n ≤ 4611686018427387904 := by
 have : 2 ^ n ≤ 2 ^ 62 := Nat.pow_le_pow_right (by omega) h
 have h2 : ((2 ^ n : Nat) : Int) = (2 : Int) ^ n := by norm_cast
 rw [← h2]
 have h3 : (2 : Nat) ^ 62 = 4611686018427387904 := by decide
 omega
/-- one, shifted -/
theorem ugy {xt yt : TypeId} {x y : Operand} {n : Nat} (ho : o.op = .binOp .shl xt x y yt) (hx : evC st x = .v (.int .i64 1)) (hy : evC st y = .v (.int .i64 (n : Int))) (hn : n ≤ 62) : NStep P o st (.v (.int .i64 ((2 ^ n : Nat) : Int))) := by
 have h0 := ulu hn
 have h2 : ((2 ^ n : Nat) : Int) = (2 : Int) ^ n := by norm_cast
 have h1 : 0 ≤ ((2 ^ n : Nat) : Int) := Int.natCast_nonneg _
 exact mi ho hx hy (lj (by omega)) fun w => by
  have e1 : ¬ ((n : Int) < 0) := by omega
  have e2 : min (n : Int).toNat IntKind.i64.bits = n := by rw [Int.toNat_natCast]; show min n 64 = n; omega
  have e3 : IntKind.i64.wrap (1 * 2 ^ n) = ((2 ^ n : Nat) : Int) := by rw [Int.one_mul, ← h2, IntKind.wrap_i64]; omega
  simp only [eqGuard, binOp, Op.shift, e1, if_false, e2, e3]
  rfl
/-- a number that is not below 0, shifted back -/
theorem ucl {xt yt : TypeId} {x y : Operand} {k : IntKind} {m n : Nat} (ho : o.op = .binOp .shr xt x y yt) (hx : evC st x = .v (.int k (m : Int))) (hy : evC st y = .v (.int .i64 (n : Int))) (hn : n ≤ k.bits) (hm : (m : Int) ≤ hiK k) (hk : loK k ≤ 0) : NStep P o st (.v (.int k ((m / 2 ^ n : Nat) : Int))) := by
 have h4 : m / 2 ^ n ≤ m := Nat.div_le_self _ _
 exact n_int' ho hx hy (okV_int.2 (by obtain ⟨q, hq⟩ : ∃ q, m / 2 ^ n = q := ⟨_, rfl⟩; rw [hq] at h4 ⊢; omega)) fun w => by
  have e1 : ¬ ((n : Int) < 0) := by omega
  have e2 : min (n : Int).toNat k.bits = n := by rw [Int.toNat_natCast]; omega
  have e3 : (m : Int).fdiv (2 ^ n) = ((m / 2 ^ n : Nat) : Int) := by
   have h2 : ((2 ^ n : Nat) : Int) = (2 : Int) ^ n := by norm_cast
   rw [← h2, Int.fdiv_eq_ediv_of_nonneg _ (Int.natCast_nonneg _)]
   norm_cast
  simp only [eqGuard, binOp, Op.shift, e1, if_false, e2, e3]
  rfl
where
 n_int' {op : BinOp} {xt yt : TypeId} {x y : Operand} {k k' : IntKind} {m n : Int} {r : Value} (ho : o.op = .binOp op xt x y yt) (hx : evC st x = .v (.int k m)) (hy : evC st y = .v (.int k' n))
  (h1 : okV r = true) (h : ∀ w, (do eqGuard op xt x y (.int k m) (.int k' n); binOp op xt (.int k m) (.int k' n)).run P w = .ok r w) : NStep P o st (.v r) := fun E w a hs => by
  have e1 := (hx ▸ hs.ev x).v_inv
  have e2 := (hy ▸ hs.ev y).v_inv
  refine ⟨r, .v h1, fun w' => ?_⟩
  have := h w'
  simp only [execOp, ho, e1, e2, Sem.run_bind] at this ⊢
  rw [this]
  rfl
/-- the last bit -/
theorem ucm {xt yt : TypeId} {x y : Operand} {k : IntKind} {m : Nat} (ho : o.op = .binOp .and xt x y yt) (hx : evC st x = .v (.int k (m : Int))) (hy : evC st y = .v (.int k 1)) (hm : m < 2 ^ k.bits) (hb : 2 ≤ k.bits) : NStep P o st (.v (.int k ((m % 2 : Nat) : Int))) := by
 have h2 : m % 2 < 2 := Nat.mod_lt _ (by omega)
 exact mi ho hx hy (okV_int.2 (by cases k <;> simp only [loK, hiK] <;> omega)) fun w => by
  have e1 : (BitVec.ofInt k.bits (m : Int) &&& BitVec.ofInt k.bits 1).toNat = m % 2 := by
   have q1 : (BitVec.ofInt k.bits (m : Int)).toNat = m := by
    rw [show BitVec.ofInt k.bits (m : Int) = BitVec.ofNat k.bits m from BitVec.ofInt_natCast .., BitVec.toNat_ofNat, Nat.mod_eq_of_lt hm]
   have q2 : (BitVec.ofInt k.bits 1).toNat = 1 := by
    rw [show BitVec.ofInt k.bits 1 = BitVec.ofNat k.bits 1 from BitVec.ofInt_natCast k.bits 1, BitVec.toNat_ofNat, Nat.mod_eq_of_lt]
    exact Nat.one_lt_two_pow (by omega)
   rw [BitVec.toNat_and, q1, q2, Nat.and_one_is_mod]
  have e2 : k.wrap ((m % 2 : Nat) : Int) = ((m % 2 : Nat) : Int) := by
   have : m % 2 = 0 ∨ m % 2 = 1 := by omega
   rcases this with h | h <;> rw [h] <;> cases k <;> decide
  simp only [eqGuard, binOp, Op.intBits, e1, e2]
  simp
end Go.AB
namespace Go.AB
open Go Go.RowKit
open Go.AB.Enc (cells)
open Go.PB (ay aj PlaceD bg bi bh bn ak ah cr bq dr dt)
theorem ueu {t : aj} (ht : ed t = true) (k : Nat) : gq t k ≤ 60 := by
 obtain ⟨_, h2, h3⟩ := mx ht
 have key : ∀ j, j ≤ t.length → gq t j ≤ j * 10 := by
  intro j
  induction j with
  | zero => intro _; rw [uet]; exact Nat.zero_le _
  | succ j ih =>
   intro hj
   have hc : t[j]? = some t[j] := List.getElem?_eq_getElem (by omega)
   rw [wh hc]
   have := (h3 _ (List.mem_of_getElem? hc)).2.1
   have := ih (by omega)
   omega
 by_cases q : k ≤ t.length
 ·have := key k q; omega
 have h1 := key t.length (Nat.le_refl _)
 have e : gq t k = gq t t.length := by
  unfold gq
  rw [List.take_of_length_le (show t.length ≤ k by omega), List.take_of_length_le (Nat.le_refl _)]
 omega
instance decLtW : ∀ a b : List Int, Decidable (ltW a b)
 | [], _ => isFalse (by simp [ltW])
 | _ :: _, [] => isFalse (by simp [ltW])
 | x :: a, y :: b => by
  have := decLtW a b
  unfold ltW
  exact inferInstance
end Go.AB
namespace Go.Proofs.YtgffhbbcpgdjjaaGreatDoor
set_option maxRecDepth 10000
open Go.RowKit Go.AB
open Go.AB.Enc (cells)
open Go.PB (ay aj PlaceD bg bi bh bn ak ah cr bq dr dt)
theorem sd (n lo hi : Int) : Pure Tryz.prog 36 [.v (.int .i64 n), .v (.int .i64 lo), .v (.int .i64 hi)] (.v (.bool (inB n lo hi))) := by
 refine dg Tryz.func36 rfl (fun m => .v) fun G nx => ?_
 simp only [Tryz.ntmps36, List.length_cons, List.length_nil, Nat.reduceAdd, Nat.reduceSub]
 refine cb fun hlt => ?_
 dsimp only at hlt
 refine yS fun _ K1 => ?_
 refine yR ?_
 refine yA rfl rfl ?_
 refine yN ?_
 dsimp only [St.put]
 refine K1 _ ?_
 refine yS fun _ K2 => ?_
 refine yR ?_
 refine yM rfl rfl ?_
 refine yM rfl rfl ?_
 refine aa rfl (m6 rfl rfl rfl) ?_
 refine ff (fun hs => ?_) (fun hs => ?_)
 ·try replace hs := of_decide_eq_true hs
  refine yM rfl rfl ?_
  refine yM rfl rfl ?_
  refine yM rfl rfl ?_
  refine aa rfl (uw rfl rfl rfl) ?_
  refine aa rfl (ci rfl rfl (by constructor)) ?_
  refine yA rfl rfl ?_
  refine yN ?_
  dsimp only [St.put]
  refine K2 _ ?_
  refine ar ?_
  refine bj rfl (by constructor) zN zS ?_
  exact vb (by simp [inB, hs]; try omega)
 try replace hs := of_decide_eq_false hs
 refine yM rfl rfl ?_
 refine yK rfl ?_
 refine yK rfl ?_
 refine yK rfl ?_
 refine aa rfl (cz rfl rfl (by constructor)) ?_
 refine yA rfl rfl ?_
 refine yN ?_
 dsimp only [St.put]
 refine K2 _ ?_
 refine ar ?_
 refine bj rfl (by constructor) zN zS ?_
 exact vb (by simp [inB, hs]; try omega)
theorem uow (t : aj) (ht : ed t = true) : Pure Tryz.prog 79 [gx t] (.v (.int .i64 (ox t : Int))) := by
 refine dg Tryz.func79 rfl (fun m => .v) fun G nx => ?_
 simp only [Tryz.ntmps79, List.length_cons, List.length_nil, Nat.reduceAdd, Nat.reduceSub]
 refine cb fun hlt => ?_
 dsimp only at hlt
 obtain ⟨hl1, hl2, hl3⟩ := mx ht
 refine yS fun _ K1 => ?_
 refine yR ?_
 try dsimp only [St.put]
 refine yB rfl rfl rfl ?_
 refine yA rfl rfl ?_
 refine yN ?_
 dsimp only [St.put]
 refine K1 _ ?_
 refine yS fun _ K2 => ?_
 refine yR ?_
 refine yA rfl rfl ?_
 refine yN ?_
 dsimp only [St.put]
 refine K2 _ ?_
 refine yS fun _ K3 => ?_
 refine yS fun _ K4 => ?_
 refine yR ?_
 refine yA rfl rfl ?_
 refine yN ?_
 dsimp only [St.put]
 refine K4 _ ?_
 refine bf ?_
 refine cm 5 ?_
 refine zQ ?_
 refine dm (G) zX ?_
 dsimp only
 refine dj (X := Nat) (fun k => k ≤ t.length) (fun k => t.length - k) (fun k => [(3, .v (.int .i64 ((gq t k : Nat) : Int))), (4, .v (.int .i64 (k : Int)))]) (fun k G' => G') 0 rfl ?_ ?_ (fun _ _ h => h) ?_ ?_ ?_
 ·exact Nat.zero_le _
 ·exact zF
 ·rintro k hI
  exact zL
 ·exact fun _ _ _ _ h => .inl h
 rintro k hI
 dsimp only at hI ⊢
 refine yS fun _ K5 => ?_
 refine yS fun _ K6 => ?_
 refine yR ?_
 refine yM rfl rfl ?_
 refine yF rfl rfl rfl rfl ?_
 refine yL rfl rfl rfl ?_
 refine aa rfl (bp rfl rfl (List.length_map _)) ?_
 refine aa rfl (ck rfl rfl rfl) ?_
 refine yN ?_
 dsimp only [St.put]
 refine K6 _ ?_
 refine aq rfl (fun hc => ?_) (fun hc => ?_)
 ·replace hc := of_decide_eq_true hc
  obtain ⟨c, hk⟩ : ∃ x, t[k]? = some x := dl (by omega)
  have hcl := hl3 c (gh hk)
  have hst := ueu ht k
  refine ax ?_
  refine K5 _ ?_
  refine yS fun _ K7 => ?_
  refine bf ?_
  refine yR ?_
  refine yM rfl rfl ?_
  refine yF rfl rfl rfl rfl ?_
  refine yL rfl rfl rfl ?_
  refine yM rfl rfl ?_
  refine aa rfl (bw rfl rfl rfl rfl (bu (by assumption)) (Enc.len _)) ?_
  refine yF rfl rfl rfl rfl ?_
  refine yL rfl rfl rfl ?_
  refine aa rfl (bp rfl rfl (List.length_map _)) ?_
  refine aa rfl (br rfl rfl rfl (by omega)) ?_
  refine yA rfl rfl ?_
  refine yN ?_
  dsimp only [St.put]
  refine K7 _ ?_
  refine yR ?_
  refine yM rfl rfl ?_
  refine aa rfl (br rfl rfl rfl (by omega)) ?_
  refine yA rfl rfl ?_
  refine yN ?_
  dsimp only [St.put]
  have e := wh hk
  rw [show ((gq t k : Nat) : Int) + (c.lines.length : Int) = ((gq t (k + 1) : Nat) : Int) by rw [e]; rfl]
  exact ⟨k + 1, by omega, by omega, ⟨⟨rfl, rfl⟩, zF, zB, zN, zX⟩⟩
 replace hc := of_decide_eq_false hc
 obtain rfl : k = t.length := by omega
 refine c6 ?_
 refine K3 _ ?_
 refine yS fun _ K8 => ?_
 refine yR ?_
 refine yM rfl rfl ?_
 refine yA rfl rfl ?_
 refine yN ?_
 dsimp only [St.put]
 refine K8 _ ?_
 refine ar ?_
 refine bj rfl (by constructor) zN zS ?_
 rfl
theorem zj (t : aj) (q : PlaceD) (ht : ed t = true) (hq : gj t q = true) : Pure Tryz.prog 10 [gx t, val q] (.v (.int .i64 (rg t q))) := by
 refine dg Tryz.func10 rfl (fun m => .v) fun G nx => ?_
 simp only [Tryz.ntmps10, List.length_cons, List.length_nil, Nat.reduceAdd, Nat.reduceSub]
 refine cb fun hlt => ?_
 dsimp only at hlt
 obtain ⟨hl1, hl2, hl3⟩ := mx ht
 obtain ⟨kc, kn, kw, c0, l0, hqe, hkc, hkn, _⟩ := uf1 hq
 have hkcl := (List.getElem?_eq_some_iff.1 hkc).1
 have hknl := (List.getElem?_eq_some_iff.1 hkn).1
 have hc0 := (hl3 c0 (gh hkc)).2.1
 subst hqe
 refine yS fun _ K1 => ?_
 refine yR ?_
 try dsimp only [St.put]
 refine yB rfl rfl rfl ?_
 try dsimp only [St.put]
 refine yB rfl rfl rfl ?_
 refine yA rfl rfl ?_
 refine yN ?_
 dsimp only [St.put]
 refine K1 _ ?_
 refine yS fun _ K2 => ?_
 refine yR ?_
 refine yF rfl rfl rfl rfl ?_
 refine yL rfl rfl rfl ?_
 refine yA rfl rfl ?_
 refine yN ?_
 dsimp only [St.put]
 refine K2 _ ?_
 refine yS fun _ K3 => ?_
 refine yS fun _ K4 => ?_
 refine yR ?_
 refine yA rfl rfl ?_
 refine yN ?_
 dsimp only [St.put]
 refine K4 _ ?_
 refine bf ?_
 refine cm 7 ?_
 refine zQ ?_
 refine dm (G) zX ?_
 dsimp only
 refine dj (X := Nat) (fun k => k ≤ kc) (fun k => kc - k) (fun k => [(5, .v (.int .i64 ((kn : Int) + ((gq t k : Nat) : Int)))), (6, .v (.int .i64 (k : Int)))]) (fun k G' => G') 0 rfl ?_ ?_ (fun _ _ h => h) ?_ ?_ ?_
 ·exact Nat.zero_le _
 ·exact zF
 ·rintro k hI
  exact zL
 ·exact fun _ _ _ _ h => .inl h
 rintro k hI
 dsimp only at hI ⊢
 refine yS fun _ K5 => ?_
 refine yS fun _ K6 => ?_
 refine yR ?_
 refine yM rfl rfl ?_
 refine yF rfl rfl rfl rfl ?_
 refine yL rfl rfl rfl ?_
 refine aa rfl (ck rfl rfl rfl) ?_
 refine yN ?_
 dsimp only [St.put]
 refine K6 _ ?_
 refine aq rfl (fun hc => ?_) (fun hc => ?_)
 ·replace hc := of_decide_eq_true hc
  obtain ⟨c, hk⟩ : ∃ x, t[k]? = some x := dl (by omega)
  have hcl := hl3 c (gh hk)
  have hst := ueu ht k
  refine ax ?_
  refine K5 _ ?_
  refine yS fun _ K7 => ?_
  refine bf ?_
  refine yR ?_
  refine yM rfl rfl ?_
  refine yF rfl rfl rfl rfl ?_
  refine yL rfl rfl rfl ?_
  refine yM rfl rfl ?_
  refine aa rfl (bw rfl rfl rfl rfl (bu (by assumption)) (Enc.len _)) ?_
  refine yF rfl rfl rfl rfl ?_
  refine yL rfl rfl rfl ?_
  refine aa rfl (bp rfl rfl (List.length_map _)) ?_
  refine aa rfl (br rfl rfl rfl (by omega)) ?_
  refine yA rfl rfl ?_
  refine yN ?_
  dsimp only [St.put]
  refine K7 _ ?_
  refine yR ?_
  refine yM rfl rfl ?_
  refine aa rfl (br rfl rfl rfl (by omega)) ?_
  refine yA rfl rfl ?_
  refine yN ?_
  dsimp only [St.put]
  have e := wh hk
  rw [show (kn : Int) + ((gq t k : Nat) : Int) + (c.lines.length : Int) = (kn : Int) + ((gq t (k + 1) : Nat) : Int) by rw [e, Int.natCast_add]; omega]
  exact ⟨k + 1, by omega, by omega, ⟨⟨rfl, rfl⟩, zF, zB, zN, zX⟩⟩
 replace hc := of_decide_eq_false hc
 obtain rfl : k = kc := by omega
 refine c6 ?_
 refine K3 _ ?_
 refine yS fun _ K8 => ?_
 refine yR ?_
 refine yM rfl rfl ?_
 refine yA rfl rfl ?_
 refine yN ?_
 dsimp only [St.put]
 refine K8 _ ?_
 refine ar ?_
 refine bj rfl (by constructor) zN zS ?_
 exact vi (by unfold rg; rw [Int.toNat_natCast])
theorem ufo (l : List PlaceD) (q : PlaceD) (hl : l.length ≤ 1000) : Pure Tryz.prog 62 [lst l, val q] (.v (.bool (decide (q ∈ l)))) := by
 refine dg Tryz.func62 rfl (fun m => .v) fun G nx => ?_
 simp only [Tryz.ntmps62, List.length_cons, List.length_nil, Nat.reduceAdd, Nat.reduceSub]
 refine cb fun hlt => ?_
 dsimp only at hlt
 refine yS fun _ K1 => ?_
 refine yR ?_
 try dsimp only [St.put]
 refine yB rfl rfl rfl ?_
 refine yA rfl rfl ?_
 refine yN ?_
 dsimp only [St.put]
 refine K1 _ ?_
 refine yS fun _ K2 => ?_
 refine yS fun _ K3 => ?_
 refine yR ?_
 refine yA rfl rfl ?_
 refine yN ?_
 dsimp only [St.put]
 refine K3 _ ?_
 refine bf ?_
 refine cm 6 ?_
 refine zQ ?_
 refine dm (G) zX ?_
 dsimp only
 refine dj (X := Nat) (fun k => k ≤ l.length ∧ ∀ y ∈ l.take k, y ≠ q) (fun k => l.length - k) (fun k => [(5, .v (.int .i64 (k : Int)))]) (fun k G' => G') 0 rfl ?_ ?_ (fun _ _ h => h) ?_ ?_ ?_
 ·exact ⟨Nat.zero_le _, by simp⟩
 ·exact zF
 ·rintro k hI
  exact zL
 ·exact fun _ _ _ _ h => .inl h
 rintro k hI
 dsimp only at hI ⊢
 refine yS fun _ K4 => ?_
 refine yS fun _ K5 => ?_
 refine yR ?_
 refine yM rfl rfl ?_
 refine yM rfl rfl ?_
 refine aa rfl (bp rfl rfl (List.length_map _)) ?_
 refine aa rfl (ck rfl rfl rfl) ?_
 refine yN ?_
 dsimp only [St.put]
 refine K5 _ ?_
 refine aq rfl (fun hc => ?_) (fun hc => ?_)
 ·replace hc := of_decide_eq_true hc
  obtain ⟨y, hy⟩ : ∃ y, l[k]? = some y := dl (by omega)
  refine ax ?_
  refine K4 _ ?_
  refine yS fun _ K6 => ?_
  refine bf ?_
  refine yS fun _ K7 => ?_
  refine fw [(0, none), (1, none), (2, none), (3, none), (4, none), (5, none)] (fun i => [].contains i) (fun i => [].contains i) (fun i => [0, 1, 2, 5].contains i) [] (by kernel_rfl) (by kernel_rfl) ?_
  refine xM rfl rfl rfl rfl rfl ?_
  refine xM rfl rfl rfl rfl rfl ?_
  try dsimp only [St.put]
  refine af rfl rfl rfl rfl (bw rfl rfl rfl rfl (bu (by assumption)) (Enc.len _)) ?_
  try dsimp only [St.put]
  refine aw rfl rfl rfl rfl (dz rfl rfl (Enc.len _)) ?_
  try dsimp only [St.put]
  refine aw rfl rfl rfl rfl (dz rfl rfl (Enc.len _)) ?_
  refine af rfl rfl rfl rfl (m8 (x := y) (y := q) rfl rfl rfl) ?_
  refine cw ?_
  dsimp only [St.put]
  refine K7 _ ?_
  refine aq rfl (fun hc => ?_) (fun hc => ?_)
  ·have he : y = q := of_decide_eq_true hc
   refine yS fun _ K8 => ?_
   refine yR ?_
   refine yA rfl rfl ?_
   refine yN ?_
   dsimp only [St.put]
   refine K8 _ ?_
   refine ar ?_
   refine bj rfl (by constructor) zN zS ?_
   exact vb (decide_eq_true (he ▸ gh hy)).symm
  have hne : y ≠ q := of_decide_eq_false hc
  refine ax ?_
  refine K6 _ ?_
  refine yR ?_
  refine yM rfl rfl ?_
  refine aa rfl (br rfl rfl rfl (by omega)) ?_
  refine yA rfl rfl ?_
  refine yN ?_
  dsimp only [St.put]
  exact ⟨k + 1, by omega, ⟨by omega, uco (p := fun y => y ≠ q) hy hne hI.2⟩, ⟨⟨rfl, rfl⟩, zF, zB, zN, zX⟩⟩
 replace hc := of_decide_eq_false hc
 refine c6 ?_
 refine K2 _ ?_
 refine yS fun _ K9 => ?_
 refine yR ?_
 refine yA rfl rfl ?_
 refine yN ?_
 dsimp only [St.put]
 refine K9 _ ?_
 refine ar ?_
 refine bj rfl (by constructor) zN zS ?_
 exact vb (by
  have := hI.2
  rw [ia (show l.length ≤ k by omega)] at this
  exact (decide_eq_false fun h => this q h rfl).symm)
theorem ufr (a b : List Int) (ha : a.length ≤ 1000) : Pure Tryz.prog 31 [lst a, lst b] (.v (.bool (decide (a = b)))) := by
 refine dg Tryz.func31 rfl (fun m => .v) fun G nx => ?_
 simp only [Tryz.ntmps31, List.length_cons, List.length_nil, Nat.reduceAdd, Nat.reduceSub]
 refine cb fun hlt => ?_
 dsimp only at hlt
 refine l9 1 (fun hfb => ?_)
 have hb := (fit_lst.1 hfb).1
 refine yS fun _ K1 => ?_
 refine yR ?_
 refine yA rfl rfl ?_
 refine yN ?_
 dsimp only [St.put]
 refine K1 _ ?_
 refine yS fun _ K2 => ?_
 refine yS fun _ K3 => ?_
 refine yR ?_
 refine yM rfl rfl ?_
 refine aa rfl (bp rfl rfl (List.length_map _)) ?_
 refine yM rfl rfl ?_
 refine aa rfl (bp rfl rfl (List.length_map _)) ?_
 refine aa rfl (gk rfl rfl rfl) ?_
 refine yN ?_
 dsimp only [St.put]
 refine K3 _ ?_
 refine aq rfl (fun hc => ?_) (fun hc => ?_)
 ·try replace hc := of_decide_eq_true hc
  refine yS fun _ K4 => ?_
  refine yR ?_
  refine yA rfl rfl ?_
  refine yN ?_
  dsimp only [St.put]
  refine K4 _ ?_
  refine ar ?_
  refine bj rfl (by constructor) zN zS ?_
  exact vb (by
   have : a ≠ b := fun e => by subst e; simp at hc
   simp [this])
 have hl : a.length = b.length := by
  have := i5 hc
  omega
 refine ax ?_
 refine K2 _ ?_
 refine yS fun _ K5 => ?_
 refine yS fun _ K6 => ?_
 refine yR ?_
 refine yA rfl rfl ?_
 refine yN ?_
 dsimp only [St.put]
 refine K6 _ ?_
 refine bf ?_
 refine cm 6 ?_
 refine zQ ?_
 refine dm (G) zX ?_
 dsimp only
 refine dj (X := Nat) (fun k => k ≤ a.length ∧ a.take k = b.take k) (fun k => a.length - k) (fun k => [(5, .v (.int .i64 (k : Int)))]) (fun k G' => G') 0 rfl ?_ ?_ (fun _ _ h => h) ?_ ?_ ?_
 ·exact ⟨Nat.zero_le _, by simp⟩
 ·exact zF
 ·rintro k hI
  exact zL
 ·exact fun _ _ _ _ h => .inl h
 rintro k hI
 dsimp only at hI ⊢
 refine yS fun _ K7 => ?_
 refine yS fun _ K8 => ?_
 refine yR ?_
 refine yM rfl rfl ?_
 refine yM rfl rfl ?_
 refine aa rfl (bp rfl rfl (List.length_map _)) ?_
 refine aa rfl (ck rfl rfl rfl) ?_
 refine yN ?_
 dsimp only [St.put]
 refine K8 _ ?_
 refine aq rfl (fun hc => ?_) (fun hc => ?_)
 ·replace hc := of_decide_eq_true hc
  obtain ⟨x, hx⟩ : ∃ x, a[k]? = some x := dl (by omega)
  obtain ⟨y, hy⟩ : ∃ y, b[k]? = some y := dl (by omega)
  refine ax ?_
  refine K7 _ ?_
  refine yS fun _ K9 => ?_
  refine bf ?_
  refine yS fun _ K10 => ?_
  refine fw [(0, none), (1, none), (2, none), (3, none), (4, none), (5, none), (6, none), (7, none), (8, none)] (fun i => [].contains i) (fun i => [].contains i) (fun i => [0, 1, 2, 4, 5, 6, 8].contains i) [] (by kernel_rfl) (by kernel_rfl) ?_
  refine xM rfl rfl rfl rfl rfl ?_
  refine xM rfl rfl rfl rfl rfl ?_
  try dsimp only [St.put]
  refine af rfl rfl rfl rfl (bw rfl rfl rfl rfl (bu (by assumption)) (Enc.len _)) ?_
  try dsimp only [St.put]
  refine aw rfl rfl rfl rfl (ca rfl rfl) ?_
  refine xM rfl rfl rfl rfl rfl ?_
  refine xM rfl rfl rfl rfl rfl ?_
  try dsimp only [St.put]
  refine af rfl rfl rfl rfl (bw rfl rfl rfl rfl (bu (by assumption)) (Enc.len _)) ?_
  try dsimp only [St.put]
  refine aw rfl rfl rfl rfl (ca rfl rfl) ?_
  refine af rfl rfl rfl rfl (gk rfl rfl rfl) ?_
  refine cw ?_
  dsimp only [St.put]
  refine K10 _ ?_
  refine aq rfl (fun hc => ?_) (fun hc => ?_)
  ·have hxy := ke hc
   refine yS fun _ K11 => ?_
   refine yR ?_
   refine yA rfl rfl ?_
   refine yN ?_
   dsimp only [St.put]
   refine K11 _ ?_
   refine ar ?_
   refine bj rfl (by constructor) zN zS ?_
   exact vb (by simp [ugw hx hy hxy])
  have hxy := i5 hc
  refine ax ?_
  refine K9 _ ?_
  refine yR ?_
  refine yM rfl rfl ?_
  refine aa rfl (br rfl rfl rfl (by omega)) ?_
  refine yA rfl rfl ?_
  refine yN ?_
  dsimp only [St.put]
  exact ⟨k + 1, by omega, ⟨by omega, uej hI.2 hx (hxy ▸ hy)⟩, ⟨⟨rfl, rfl⟩, zF, zB, zN, zX⟩⟩
 replace hc := of_decide_eq_false hc
 refine c6 ?_
 refine K5 _ ?_
 refine yS fun _ K12 => ?_
 refine yR ?_
 refine yA rfl rfl ?_
 refine yN ?_
 dsimp only [St.put]
 refine K12 _ ?_
 refine ar ?_
 refine bj rfl (by constructor) zN zS ?_
 exact vb (by
  have h1 := hI.2
  rw [ia (by omega), ia (by omega)] at h1
  simp [h1])
end Go.Proofs.YtgffhbbcpgdjjaaGreatDoor
namespace Go.AB
open Go Go.RowKit
open Go.AB.Enc (cells)
open Go.PB (ay aj PlaceD bg bi bh bn ak ah cr bq dr dt)
theorem ud1 {t : aj} {x : ak} {i : Nat} {q : PlaceD} (h : (av t)[i]? = some q) : gw t x ((av t).take (i + 1)) = gw t x ((av t).take i) + bif dw t x q then 1 else 0 := by
 unfold gw
 rw [List.take_add_one, h, Option.toList_some, List.filter_append, List.length_append]
 cases hf : dw t x q <;> simp [hf]
def kg (x : ak) (b : Bool) (q : PlaceD) : Bool := bif b then decide (q ∈ x.found) && decide (q ∈ x.well) else decide (q ∈ x.found) || decide (q ∈ x.well)
/-- what is found, among the first places -/
def qc (t : aj) (x : ak) (b : Bool) (i : Nat) : List PlaceD := ((av t).take i).filter (kg x b)
theorem uid {t : aj} {x : ak} {b : Bool} {i : Nat} {q : PlaceD} (h : (av t)[i]? = some q) : qc t x b (i + 1) = qc t x b i ++ bif kg x b q then [q] else [] := by
 unfold qc
 rw [List.take_add_one, h, Option.toList_some, List.filter_append]
 cases hf : kg x b q <;> simp [hf]
theorem usb (t : aj) (x : ak) (b : Bool) : qc t x b (av t).length = bif b then er t x else d7 t x := by
 unfold qc
 rw [List.take_length]
 cases b <;> rfl
theorem usa (t : aj) (x : ak) (b : Bool) (i : Nat) : (qc t x b i).length ≤ (av t).length := by
 unfold qc
 have := List.length_filter_le (kg x b) ((av t).take i)
 rw [List.length_take] at this
 omega
theorem bit_eq {s k : Nat} : (((s / 2 ^ k % 2 : Nat) : Int) = 1) ↔ s.testBit k = true := by
 rw [Nat.testBit_eq_decide_div_mod_eq, decide_eq_true_eq]
 omega
end Go.AB
namespace Go.Proofs.YtgffhbbcpgdjjaaGreatDoor
set_option maxRecDepth 10000
open Go.RowKit Go.AB
open Go.AB.Enc (cells)
open Go.PB (ay aj PlaceD bg bi bh bn ak ah cr bq dr dt)
theorem uov (p : ah) (j : Nat) (x : ak) (ht : ed p.text = true) (hx : p.pages[j]? = some x) : Pure Tryz.prog 38 [val p, .v (.int .i64 (j : Int))] (.v (.int .i64 (fh p.text x : Int))) := by
 refine dg Tryz.func38 rfl (fun m => .v) fun G nx => ?_
 simp only [Tryz.ntmps38, List.length_cons, List.length_nil, Nat.reduceAdd, Nat.reduceSub]
 refine cb fun hlt => ?_
 dsimp only at hlt
 have hal := mr ht
 have hjl := (List.getElem?_eq_some_iff.1 hx).1
 refine yS fun _ K1 => ?_
 refine yR ?_
 try dsimp only [St.put]
 refine yB rfl rfl rfl ?_
 refine yA rfl rfl ?_
 refine yN ?_
 dsimp only [St.put]
 refine K1 _ ?_
 refine yS fun _ K2 => ?_
 refine yR ?_
 refine yA rfl rfl ?_
 refine yN ?_
 dsimp only [St.put]
 refine K2 _ ?_
 refine yS fun _ K3 => ?_
 refine yR ?_
 refine yF rfl rfl rfl rfl ?_
 try dsimp only [St.put]
 refine bk rfl (c := gx p.text) (jx (cs := cells p) rfl rfl (show 1 ≤ 4 by decide)) ?_
 try dsimp only [St.put]
 refine ae rfl (ba rfl rfl rfl (ub1 p.text ht) ?_)
 refine yA rfl rfl ?_
 refine yN ?_
 dsimp only [St.put]
 refine K3 _ ?_
 refine yS fun _ K4 => ?_
 refine yS fun _ K5 => ?_
 refine yR ?_
 refine yA rfl rfl ?_
 refine yN ?_
 dsimp only [St.put]
 refine K5 _ ?_
 refine bf ?_
 refine cm 8 ?_
 refine zQ ?_
 refine dm (G) zX ?_
 dsimp only
 refine dj (X := Nat) (fun i => i ≤ (av p.text).length) (fun i => (av p.text).length - i) (fun i => [(5, .v (.int .i64 ((gw p.text x ((av p.text).take i) : Nat) : Int))), (7, .v (.int .i64 (i : Int)))]) (fun i G' => G') 0 rfl ?_ ?_ (fun _ _ h => h) ?_ ?_ ?_
 ·exact Nat.zero_le _
 ·exact zF
 ·rintro i hI
  exact zL
 ·exact fun _ _ _ _ h => .inl h
 rintro i hI
 dsimp only at hI ⊢
 refine yS fun _ K6 => ?_
 refine yS fun _ K7 => ?_
 refine yR ?_
 refine yM rfl rfl ?_
 refine yM rfl rfl ?_
 refine aa rfl (bp rfl rfl (List.length_map _)) ?_
 refine aa rfl (ck rfl rfl rfl) ?_
 refine yN ?_
 dsimp only [St.put]
 refine K7 _ ?_
 refine aq rfl (fun hc => ?_) (fun hc => ?_)
 ·replace hc := of_decide_eq_true hc
  obtain ⟨q, hq⟩ : ∃ q, (av p.text)[i]? = some q := dl (by omega)
  have hqp := allQ_mem.1 (List.mem_of_getElem? hq)
  have hwl : gw p.text x ((av p.text).take i) ≤ (av p.text).length := by
   unfold gw
   have := List.length_filter_le (dw p.text x) ((av p.text).take i)
   rw [List.length_take] at this
   omega
  refine ax ?_
  refine K6 _ ?_
  refine yS fun _ K8 => ?_
  refine bf ?_
  refine yS fun _ K9 => ?_
  refine fw [(0, none), (1, none), (2, none), (3, none), (4, none), (5, none), (7, none), (8, none), (9, none), (10, none), (11, none), (12, none), (13, none), (14, none), (15, none), (16, none), (17, none), (18, none), (6, none), (19, none)] (fun i => [19].contains i) (fun i => [6, 19].contains i) (fun i => [0, 2, 3, 4, 7, 9, 10, 11, 13, 15, 16, 17].contains i) [] (by kernel_rfl) (by kernel_rfl) ?_
  refine af rfl rfl rfl rfl (cp rfl rfl rfl) ?_
  try dsimp only [St.put]
  refine aw rfl rfl rfl rfl (c := gx p.text) (jx (cs := cells p) rfl rfl (show 1 ≤ 4 by decide)) ?_
  refine xM rfl rfl rfl rfl rfl ?_
  refine xM rfl rfl rfl rfl rfl ?_
  try dsimp only [St.put]
  refine af rfl rfl rfl rfl (bw rfl rfl rfl rfl (bu (by assumption)) (Enc.len _)) ?_
  try dsimp only [St.put]
  refine aw rfl rfl rfl rfl (dz rfl rfl (Enc.len _)) ?_
  refine af rfl rfl rfl rfl (cp rfl rfl rfl) ?_
  try dsimp only [St.put]
  refine aw rfl rfl rfl rfl (ca rfl rfl) ?_
  refine xM rfl rfl rfl rfl rfl ?_
  try dsimp only [St.put]
  refine af rfl rfl rfl rfl (bw rfl rfl rfl rfl (bu (by assumption)) (Enc.len _)) ?_
  refine af rfl rfl rfl rfl (cp rfl rfl rfl) ?_
  try dsimp only [St.put]
  refine aw rfl rfl rfl rfl (ca rfl rfl) ?_
  refine af rfl rfl rfl rfl (cp rfl rfl rfl) ?_
  try dsimp only [St.put]
  refine aw rfl rfl rfl rfl (ca rfl rfl) ?_
  refine xM rfl rfl rfl rfl rfl ?_
  try dsimp only [St.put]
  refine af rfl rfl rfl rfl (bw rfl rfl rfl rfl (bu (by assumption)) (Enc.len _)) ?_
  refine af rfl rfl rfl rfl (cp rfl rfl rfl) ?_
  try dsimp only [St.put]
  refine aw rfl rfl rfl rfl (ca rfl rfl) ?_
  refine gu ?_
  try dsimp only [St.put]
  refine ij rfl rfl rfl (ba rfl rfl rfl (zj p.text q ht hqp) ⟨zD, ?_⟩)
  try dsimp only [St.put]
  refine f4 rfl rfl rfl rfl (ba rfl rfl rfl (sd _ _ _) ?_)
  refine gt ?_
  dsimp only [St.put]
  refine K9 _ ?_
  refine aq rfl (fun hc => ?_) (fun hc => ?_)
  ·have hb : dw p.text x q = true := hc
   refine yR ?_
   refine yM rfl rfl ?_
   refine aa rfl (br rfl rfl rfl (by omega)) ?_
   refine yA rfl rfl ?_
   refine yN ?_
   dsimp only [St.put]
   refine K8 _ ?_
   refine yR ?_
   refine yM rfl rfl ?_
   refine aa rfl (br rfl rfl rfl (by omega)) ?_
   refine yA rfl rfl ?_
   refine yN ?_
   dsimp only [St.put]
   have e := ud1 (x := x) hq
   first
   | (have z : dw p.text x q = true := hb
      rw [z, cond_true] at e
      rw [show ((gw p.text x ((av p.text).take i) : Nat) : Int) + 1 = ((gw p.text x ((av p.text).take (i + 1)) : Nat) : Int) by rw [e]; rfl]
      exact ⟨i + 1, by omega, by omega, ⟨⟨rfl, rfl⟩, zF, zB, zN, zX⟩⟩)
   | (have z : dw p.text x q = false := hb
      rw [show gw p.text x ((av p.text).take i) = gw p.text x ((av p.text).take (i + 1)) by rw [e, z]; rfl]
      exact ⟨i + 1, by omega, by omega, ⟨⟨rfl, rfl⟩, zF, zB, zN, zX⟩⟩)
  have hb : dw p.text x q = false := hc
  refine ax ?_
  refine K8 _ ?_
  refine yR ?_
  refine yM rfl rfl ?_
  refine aa rfl (br rfl rfl rfl (by omega)) ?_
  refine yA rfl rfl ?_
  refine yN ?_
  dsimp only [St.put]
  have e := ud1 (x := x) hq
  first
  | (have z : dw p.text x q = true := hb
     rw [z, cond_true] at e
     rw [show ((gw p.text x ((av p.text).take i) : Nat) : Int) + 1 = ((gw p.text x ((av p.text).take (i + 1)) : Nat) : Int) by rw [e]; rfl]
     exact ⟨i + 1, by omega, by omega, ⟨⟨rfl, rfl⟩, zF, zB, zN, zX⟩⟩)
  | (have z : dw p.text x q = false := hb
     rw [show gw p.text x ((av p.text).take i) = gw p.text x ((av p.text).take (i + 1)) by rw [e, z]; rfl]
     exact ⟨i + 1, by omega, by omega, ⟨⟨rfl, rfl⟩, zF, zB, zN, zX⟩⟩)
 replace hc := of_decide_eq_false hc
 obtain rfl : i = (av p.text).length := by omega
 refine c6 ?_
 refine K4 _ ?_
 refine yS fun _ K10 => ?_
 refine yR ?_
 refine yM rfl rfl ?_
 refine yA rfl rfl ?_
 refine yN ?_
 dsimp only [St.put]
 refine K10 _ ?_
 refine ar ?_
 refine bj rfl (by constructor) zN zS ?_
 exact vi (by rw [List.take_length]; rfl)
theorem uox (p : ah) (j : Nat) (x : ak) (b : Bool) (ht : ed p.text = true) (hx : p.pages[j]? = some x) (hf : x.found.length ≤ 1000) (hw : x.well.length ≤ 1000) : Pure Tryz.prog 37 [val p, .v (.int .i64 (j : Int)), .v (.bool b)] (lst (bif b then er p.text x else d7 p.text x)) := by
 refine dg Tryz.func37 rfl (fun m => (bv _ _)) fun G nx => ?_
 simp only [Tryz.ntmps37, List.length_cons, List.length_nil, Nat.reduceAdd, Nat.reduceSub]
 refine cb fun hlt => ?_
 dsimp only at hlt
 have hal := mr ht
 have hjl := (List.getElem?_eq_some_iff.1 hx).1
 refine yS fun _ K1 => ?_
 refine yR ?_
 try dsimp only [St.put]
 refine yB rfl rfl rfl ?_
 refine yA rfl rfl ?_
 refine yN ?_
 dsimp only [St.put]
 refine K1 _ ?_
 refine yS fun _ K2 => ?_
 refine yR ?_
 refine yA rfl rfl ?_
 refine yN ?_
 dsimp only [St.put]
 refine K2 _ ?_
 refine qh 7 41 3 rfl (by decide) ?_
 dsimp only [List.set_cons_zero, List.set_cons_succ]
 refine yS fun _ K3 => ?_
 refine yR ?_
 refine yF rfl rfl rfl rfl ?_
 refine yL rfl rfl rfl ?_
 refine yM rfl rfl ?_
 refine aa rfl (bw rfl rfl rfl rfl (bu (by assumption)) (Enc.len _)) ?_
 refine yE rfl rfl rfl ?_
 try dsimp only [St.put]
 refine ae rfl (dx rfl ?_)
 try dsimp only [St.put]
 refine ae rfl (di rfl rfl rfl zG rfl rfl (by rfl) ?_)
 refine yN ?_
 dsimp only [St.put]
 refine K3 _ ?_
 refine gg (i := 8) rfl zG zC ?_
 dsimp only
 refine yS fun _ K4 => ?_
 refine yR ?_
 refine yF rfl rfl rfl rfl ?_
 try dsimp only [St.put]
 refine bk rfl (c := gx p.text) (jx (cs := cells p) rfl rfl (show 1 ≤ 4 by decide)) ?_
 try dsimp only [St.put]
 refine ae rfl (ba rfl rfl rfl (ub1 p.text ht) ?_)
 refine yA rfl rfl ?_
 refine yN ?_
 dsimp only [St.put]
 refine K4 _ ?_
 refine yS fun _ K5 => ?_
 refine yS fun _ K6 => ?_
 refine yR ?_
 refine yA rfl rfl ?_
 refine yN ?_
 dsimp only [St.put]
 refine K6 _ ?_
 refine bf ?_
 refine cm 13 ?_
 refine zQ ?_
 refine dm ((ai G nx (.tip (qc p.text x b 0).length 41 3))) zX ?_
 dsimp only
 refine dj (X := Nat) (fun i => i ≤ (av p.text).length) (fun i => (av p.text).length - i) (fun i => [(7, .list ((qc p.text x b i).map cells) (.tip nx)), (10, .v (.int .i64 (i : Int))), (11, .any), (12, .any)]) (fun i G' => (ai G nx (.tip (qc p.text x b i).length 41 3))) 0 rfl ?_ ?_ ?_ ?_ ?_ ?_
 ·exact Nat.zero_le _
 ·exact zF
 ·exact zX
 ·rintro i hI
  exact zL
 ·rintro i hI
  exact zH
 rintro i hI
 dsimp only at hI ⊢
 refine yS fun _ K7 => ?_
 refine yS fun _ K8 => ?_
 refine yR ?_
 refine yM rfl rfl ?_
 refine yM rfl rfl ?_
 refine aa rfl (bp rfl rfl (List.length_map _)) ?_
 refine aa rfl (ck rfl rfl rfl) ?_
 refine yN ?_
 dsimp only [St.put]
 refine K8 _ ?_
 refine aq rfl (fun hc => ?_) (fun hc => ?_)
 ·replace hc := of_decide_eq_true hc
  obtain ⟨q, hq⟩ : ∃ q, (av p.text)[i]? = some q := dl (by omega)
  have hfl := usa p.text x b i
  refine ax ?_
  refine K7 _ ?_
  refine yS fun _ K9 => ?_
  refine bf ?_
  refine yS fun _ K10 => ?_
  refine fw [(0, none), (1, none), (2, none), (3, none), (4, none), (5, none), (7, none), (8, none), (9, none), (10, none), (11, none), (12, none), (6, none), (13, none), (14, none), (15, none)] (fun i => [13].contains i) (fun i => [6, 13].contains i) (fun i => [0, 2, 3, 4, 7, 9, 10, 11, 14, 15].contains i) [] (by kernel_rfl) (by kernel_rfl) ?_
  refine af rfl rfl rfl rfl (cp rfl rfl rfl) ?_
  try dsimp only [St.put]
  refine aw rfl rfl rfl rfl (ca rfl rfl) ?_
  refine xM rfl rfl rfl rfl rfl ?_
  refine xM rfl rfl rfl rfl rfl ?_
  try dsimp only [St.put]
  refine af rfl rfl rfl rfl (bw rfl rfl rfl rfl (bu (by assumption)) (Enc.len _)) ?_
  try dsimp only [St.put]
  refine aw rfl rfl rfl rfl (dz rfl rfl (Enc.len _)) ?_
  refine af rfl rfl rfl rfl (cp rfl rfl rfl) ?_
  try dsimp only [St.put]
  refine aw rfl rfl rfl rfl (ca rfl rfl) ?_
  refine xM rfl rfl rfl rfl rfl ?_
  refine xM rfl rfl rfl rfl rfl ?_
  try dsimp only [St.put]
  refine af rfl rfl rfl rfl (bw rfl rfl rfl rfl (bu (by assumption)) (Enc.len _)) ?_
  try dsimp only [St.put]
  refine aw rfl rfl rfl rfl (dz rfl rfl (Enc.len _)) ?_
  refine gu ?_
  try dsimp only [St.put]
  refine ij rfl rfl rfl (ba rfl rfl rfl (ufo x.found q hf) ⟨zD, ?_⟩)
  try dsimp only [St.put]
  refine f4 rfl rfl rfl rfl (ba rfl rfl rfl (ufo x.well q hw) ?_)
  refine ec rfl rfl rfl rfl (dp rfl (by constructor)) ?_
  refine ec rfl rfl rfl rfl (dp rfl (by constructor)) ?_
  refine gt ?_
  dsimp only [St.put]
  refine K10 _ ?_
  refine cm 13 ?_
  refine zQ ?_
  refine lf (X := Bool) (fun d => kg x b q = d) (fun d => [(54, .v (.bool d))]) (fun d G' => G') rfl ?_ (fun _ _ _ _ h => .inl h) ?_ ?_
  ·rintro d hI
   exact zL
  ·refine yR ?_
   refine yM rfl rfl ?_
   refine yM rfl rfl ?_
   refine ff (fun hs => ?_) (fun hs => ?_)
   ·have s1 := hs
    refine yM rfl rfl ?_
    refine aa rfl (ci rfl rfl (by constructor)) ?_
    refine ff (fun hs => ?_) (fun hs => ?_)
    ·have s3 := hs
     refine yM rfl rfl ?_
     refine yK rfl ?_
     refine yK rfl ?_
     refine yK rfl ?_
     refine yK rfl ?_
     refine yK rfl ?_
     refine yK rfl ?_
     refine yK rfl ?_
     refine yK rfl ?_
     refine aa rfl (ci rfl rfl (by constructor)) ?_
     refine yN ?_
     dsimp only [St.put]
     refine ⟨_, ?_, ⟨⟨rfl, rfl⟩, zF, zB, zN, zX⟩⟩
     cases b <;> simp_all [kg]
    have s3 := hs
    refine yM rfl rfl ?_
    refine yM rfl rfl ?_
    refine aa rfl (ei rfl rfl) ?_
    refine ff (fun hs => ?_) (fun hs => ?_)
    ·have s6 := hs
     refine yM rfl rfl ?_
     refine yM rfl rfl ?_
     refine ff (fun hs => ?_) (fun hs => ?_)
     ·have s8 := hs
      refine yM rfl rfl ?_
      refine yK rfl ?_
      refine aa rfl (ci rfl rfl (by constructor)) ?_
      refine aa rfl (ci rfl rfl (by constructor)) ?_
      refine aa rfl (cz rfl rfl (by constructor)) ?_
      refine yN ?_
      dsimp only [St.put]
      refine ⟨_, ?_, ⟨⟨rfl, rfl⟩, zF, zB, zN, zX⟩⟩
      cases b <;> simp_all [kg]
     have s8 := hs
     refine yM rfl rfl ?_
     refine yM rfl rfl ?_
     refine aa rfl (cz rfl rfl (by constructor)) ?_
     refine aa rfl (ci rfl rfl (by constructor)) ?_
     refine aa rfl (cz rfl rfl (by constructor)) ?_
     refine yN ?_
     dsimp only [St.put]
     refine ⟨_, ?_, ⟨⟨rfl, rfl⟩, zF, zB, zN, zX⟩⟩
     cases b <;> simp_all [kg]
    have s6 := hs
    refine yM rfl rfl ?_
    refine yK rfl ?_
    refine yK rfl ?_
    refine yK rfl ?_
    refine yK rfl ?_
    refine aa rfl (cz rfl rfl (by constructor)) ?_
    refine aa rfl (cz rfl rfl (by constructor)) ?_
    refine yN ?_
    dsimp only [St.put]
    refine ⟨_, ?_, ⟨⟨rfl, rfl⟩, zF, zB, zN, zX⟩⟩
    cases b <;> simp_all [kg]
   have s1 := hs
   refine yK rfl ?_
   refine aa rfl (cz rfl rfl (by constructor)) ?_
   refine yM rfl rfl ?_
   refine yM rfl rfl ?_
   refine aa rfl (ei rfl rfl) ?_
   refine ff (fun hs => ?_) (fun hs => ?_)
   ·have s6 := hs
    refine yM rfl rfl ?_
    refine yM rfl rfl ?_
    refine ff (fun hs => ?_) (fun hs => ?_)
    ·have s8 := hs
     refine yM rfl rfl ?_
     refine yK rfl ?_
     refine aa rfl (ci rfl rfl (by constructor)) ?_
     refine aa rfl (ci rfl rfl (by constructor)) ?_
     refine aa rfl (cz rfl rfl (by constructor)) ?_
     refine yN ?_
     dsimp only [St.put]
     refine ⟨_, ?_, ⟨⟨rfl, rfl⟩, zF, zB, zN, zX⟩⟩
     cases b <;> simp_all [kg]
    have s8 := hs
    refine yM rfl rfl ?_
    refine yM rfl rfl ?_
    refine aa rfl (cz rfl rfl (by constructor)) ?_
    refine aa rfl (ci rfl rfl (by constructor)) ?_
    refine aa rfl (cz rfl rfl (by constructor)) ?_
    refine yN ?_
    dsimp only [St.put]
    refine ⟨_, ?_, ⟨⟨rfl, rfl⟩, zF, zB, zN, zX⟩⟩
    cases b <;> simp_all [kg]
   have s6 := hs
   refine yM rfl rfl ?_
   refine yK rfl ?_
   refine yK rfl ?_
   refine yK rfl ?_
   refine yK rfl ?_
   refine aa rfl (cz rfl rfl (by constructor)) ?_
   refine aa rfl (cz rfl rfl (by constructor)) ?_
   refine yN ?_
   dsimp only [St.put]
   refine ⟨_, ?_, ⟨⟨rfl, rfl⟩, zF, zB, zN, zX⟩⟩
   cases b <;> simp_all [kg]
  rintro d hst
  dsimp only at hst ⊢
  refine aq rfl (fun hc => ?_) (fun hc => ?_)
  ·have hb : kg x b q = true := hst.trans hc
   refine yR ?_
   refine yM rfl rfl ?_
   refine yM rfl rfl ?_
   refine yM rfl rfl ?_
   refine aa rfl (bw rfl rfl rfl rfl (bu (by assumption)) (Enc.len _)) ?_
   refine yE rfl rfl rfl ?_
   try dsimp only [St.put]
   refine ae rfl (ef rfl rfl rfl (by decide) (by decide) zR (by decide) ?_)
   try dsimp only [St.put]
   refine ae rfl (jz ([q]) rfl rfl zG zE rfl rfl zA ?_ zA)
   refine yA rfl rfl ?_
   refine yN ?_
   dsimp only [St.put]
   refine K9 _ ?_
   refine yR ?_
   refine yM rfl rfl ?_
   refine aa rfl (br rfl rfl rfl (by omega)) ?_
   refine yA rfl rfl ?_
   refine yN ?_
   dsimp only [St.put]
   have e := uid (x := x) (b := b) hq
   first
   | (have z : kg x b q = true := hb
      rw [z, cond_true] at e
      rw [← e]
      exact ⟨i + 1, by omega, by omega, ⟨⟨rfl, rfl⟩, zF, zB, zN, zX⟩⟩)
   | (have z : kg x b q = false := hb
      rw [z, cond_false, List.append_nil] at e
      rw [← e]
      exact ⟨i + 1, by omega, by omega, ⟨⟨rfl, rfl⟩, zF, zB, zN, zX⟩⟩)
  have hb : kg x b q = false := hst.trans hc
  refine ax ?_
  refine K9 _ ?_
  refine yR ?_
  refine yM rfl rfl ?_
  refine aa rfl (br rfl rfl rfl (by omega)) ?_
  refine yA rfl rfl ?_
  refine yN ?_
  dsimp only [St.put]
  have e := uid (x := x) (b := b) hq
  first
  | (have z : kg x b q = true := hb
     rw [z, cond_true] at e
     rw [← e]
     exact ⟨i + 1, by omega, by omega, ⟨⟨rfl, rfl⟩, zF, zB, zN, zX⟩⟩)
  | (have z : kg x b q = false := hb
     rw [z, cond_false, List.append_nil] at e
     rw [← e]
     exact ⟨i + 1, by omega, by omega, ⟨⟨rfl, rfl⟩, zF, zB, zN, zX⟩⟩)
 replace hc := of_decide_eq_false hc
 obtain rfl : i = (av p.text).length := by omega
 have hfin := usb p.text x b
 refine c6 ?_
 refine K5 _ ?_
 refine yS fun _ K12 => ?_
 refine yR ?_
 refine yM rfl rfl ?_
 refine yA rfl rfl ?_
 refine yN ?_
 dsimp only [St.put]
 refine K12 _ ?_
 refine ar ?_
 refine qd rfl (ey (by constructor)) zN zS ?_
 rw [← hfin]
 exact zW
end Go.Proofs.YtgffhbbcpgdjjaaGreatDoor
namespace Go.AB
open Go Go.RowKit
open Go.AB.Enc (cells)
open Go.PB (ay aj PlaceD bg bi bh bn ak ah cr bq dr dt)
theorem y5 {l : List ak} {g : ak → Nat} (k : Nat) : cg (l.take k) g ≤ cg l g := by
 have h : cg l g = cg (l.take k) g + cg (l.drop k) g := by
  unfold cg
  rw [← List.sum_append, ← List.map_append, List.take_append_drop]
 omega
theorem uha {p : ah} {b : Bool} {i : Nat} {r : bn} (h : (cy p b)[i]? = some r) : ly p b i = r.miss := by unfold ly; rw [h]
theorem usm (R : Nat → Int) (S : Nat → Bool) (k : Nat) : fR R S (k + 1) = fR R S k + bif S k then R k else 0 := rfl
theorem uix (p : ah) (C : Nat → Int) (S : Nat → Bool) (k : Nat) : fC p C S (k + 1) = fC p C S k + bif (bx p).hit S k then 0 else C k := rfl
end Go.AB
namespace Go.Proofs.YtgffhbbcpgdjjaaGreatDoor
set_option maxRecDepth 10000
open Go.RowKit Go.AB
open Go.AB.Enc (cells)
open Go.PB (ay aj PlaceD bg bi bh bn ak ah cr bq dr dt)
theorem ufn (p : ah) (j : Nat) (x : ak) (b : Bool) (i : Int) (hx : p.pages[j]? = some x) : Pure Tryz.prog 39 [val p, .v (.int .i64 (j : Int)), .v (.bool b), .v (.int .i64 i)] (.v (.bool (decide (cn b x = i)))) := by
 refine dg Tryz.func39 rfl (fun m => .v) fun G nx => ?_
 simp only [Tryz.ntmps39, List.length_cons, List.length_nil, Nat.reduceAdd, Nat.reduceSub]
 refine cb fun hlt => ?_
 dsimp only at hlt
 have hjl := (List.getElem?_eq_some_iff.1 hx).1
 refine yS fun _ K1 => ?_
 refine yR ?_
 try dsimp only [St.put]
 refine yB rfl rfl rfl ?_
 refine yA rfl rfl ?_
 refine yN ?_
 dsimp only [St.put]
 refine K1 _ ?_
 refine yS fun _ K2 => ?_
 refine yS fun _ K3 => ?_
 refine yR ?_
 refine yM rfl rfl ?_
 refine yN ?_
 dsimp only [St.put]
 refine K3 _ ?_
 refine aq rfl (fun hc => ?_) (fun hc => ?_)
 ·have hb : b = true := hc
  refine yS fun _ K4 => ?_
  refine yR ?_
  refine yF rfl rfl rfl rfl ?_
  refine yL rfl rfl rfl ?_
  refine yM rfl rfl ?_
  refine aa rfl (bw rfl rfl rfl rfl (bu (by assumption)) (Enc.len _)) ?_
  refine yF rfl rfl rfl rfl ?_
  refine yL rfl rfl rfl ?_
  refine yM rfl rfl ?_
  refine aa rfl (gl rfl rfl rfl) ?_
  refine yA rfl rfl ?_
  refine yN ?_
  dsimp only [St.put]
  refine K4 _ ?_
  refine ar ?_
  refine bj rfl (by constructor) zN zS ?_
  exact vb (by rw [hb]; rfl)
 have hb : b = false := hc
 refine ax ?_
 refine K2 _ ?_
 refine yS fun _ K5 => ?_
 refine yR ?_
 refine yF rfl rfl rfl rfl ?_
 refine yL rfl rfl rfl ?_
 refine yM rfl rfl ?_
 refine aa rfl (bw rfl rfl rfl rfl (bu (by assumption)) (Enc.len _)) ?_
 refine yF rfl rfl rfl rfl ?_
 refine yL rfl rfl rfl ?_
 refine yM rfl rfl ?_
 refine aa rfl (gl rfl rfl rfl) ?_
 refine yA rfl rfl ?_
 refine yN ?_
 dsimp only [St.put]
 refine K5 _ ?_
 refine ar ?_
 refine bj rfl (by constructor) zN zS ?_
 exact vb (by rw [hb]; rfl)
theorem ufp (p : ah) (j : Nat) (x : ak) (ht : ed p.text = true) (hx : p.pages[j]? = some x) (hf : x.found.length ≤ 1000) (hw : x.well.length ≤ 1000) : Pure Tryz.prog 37 [val p, .v (.int .i64 (j : Int)), .v (.bool false)] (lst (d7 p.text x)) := uox p j x false ht hx hf hw
set_option maxHeartbeats 1000000 in
theorem uoy (p : ah) (b : Bool) (i : Nat) (h : et p) (hi : i < (cy p b).length) : Pure Tryz.prog 40 [val p, .v (.bool b), .v (.int .i64 (i : Int))] (.tup [.v (.int .i64 (je p b i)), .v (.int .i64 (ne p b i))]) := by
 refine dg Tryz.func40 rfl (fun m => .tup (ce .v (ce .v dq))) fun G nx => ?_
 simp only [Tryz.ntmps40, List.length_cons, List.length_nil, Nat.reduceAdd, Nat.reduceSub]
 refine cb fun hlt => ?_
 dsimp only at hlt
 have hown := ucd h b (i : Int)
 have hrd := ub6 h b (i : Int)
 have hal := mr h.text
 have hnp := h.np
 have hmb := zz h b i
 obtain ⟨r, hr⟩ : ∃ r, (cy p b)[i]? = some r := dl hi
 have hmr := uha hr
 refine yS fun _ K1 => ?_
 refine yR ?_
 try dsimp only [St.put]
 refine yB rfl rfl rfl ?_
 refine yA rfl rfl ?_
 refine yA rfl rfl ?_
 refine yN ?_
 dsimp only [St.put]
 refine K1 _ ?_
 refine yS fun _ K2 => ?_
 refine yR ?_
 refine yA rfl rfl ?_
 refine yA rfl rfl ?_
 refine yN ?_
 dsimp only [St.put]
 refine K2 _ ?_
 refine yS fun _ K3 => ?_
 refine yS fun _ K4 => ?_
 refine yR ?_
 refine yA rfl rfl ?_
 refine yN ?_
 dsimp only [St.put]
 refine K4 _ ?_
 refine bf ?_
 refine cm 13 ?_
 refine zQ ?_
 refine dm (G) zX ?_
 dsimp only
 refine dj (X := Nat) (fun k => k ≤ p.pages.length) (fun k => p.pages.length - k) (fun k => [(8, .v (.int .i64 ((cg (p.pages.take k) (du b (i : Int)) : Nat) : Int))), (9, .v (.int .i64 ((cg (p.pages.take k) (eh p.text b (i : Int)) : Nat) : Int))), (10, .v (.int .i64 (k : Int)))]) (fun k G' => G') 0 rfl ?_ ?_ (fun _ _ h => h) ?_ ?_ ?_
 ·exact Nat.zero_le _
 ·exact zF
 ·rintro k hI
  exact zL
 ·exact fun _ _ _ _ h => .inl h
 rintro k hI
 dsimp only at hI ⊢
 refine yS fun _ K5 => ?_
 refine yS fun _ K6 => ?_
 refine yR ?_
 refine yM rfl rfl ?_
 refine yF rfl rfl rfl rfl ?_
 refine yL rfl rfl rfl ?_
 refine aa rfl (bp rfl rfl (List.length_map _)) ?_
 refine aa rfl (ck rfl rfl rfl) ?_
 refine yN ?_
 dsimp only [St.put]
 refine K6 _ ?_
 refine aq rfl (fun hc => ?_) (fun hc => ?_)
 ·replace hc := of_decide_eq_true hc
  obtain ⟨x, hx⟩ : ∃ x, p.pages[k]? = some x := dl (by omega)
  have hp := pageB_true.1 (h.page k x hx)
  have hfl := oe hp.found
  have hwl := oe hp.well
  have hgl := vj p.text x
  have ht1 := y5 (l := p.pages) (g := du b (i : Int)) k
  have ht2 := y5 (l := p.pages) (g := eh p.text b (i : Int)) k
  refine ax ?_
  refine K5 _ ?_
  refine yS fun _ K7 => ?_
  refine bf ?_
  refine yS fun _ K8 => ?_
  refine yS fun _ K9 => ?_
  refine yR ?_
  refine yE rfl rfl rfl ?_
  refine yM rfl rfl ?_
  refine yM rfl rfl ?_
  refine yM rfl rfl ?_
  try dsimp only [St.put]
  refine ae rfl (ba rfl rfl rfl (ufn p k x b (i : Int) hx) ?_)
  refine aa rfl (ei rfl rfl) ?_
  refine yN ?_
  dsimp only [St.put]
  refine K9 _ ?_
  refine aq rfl (fun hc => ?_) (fun hc => ?_)
  ·have hno : ¬ cn b x = (i : Int) := by simpa using hc
   refine c6 ?_
   refine K7 _ ?_
   refine yR ?_
   refine yM rfl rfl ?_
   refine aa rfl (br rfl rfl rfl (by omega)) ?_
   refine yA rfl rfl ?_
   refine yN ?_
   dsimp only [St.put]
   have e1 := ot (g := du b (i : Int)) hx
   have e2 := ot (g := eh p.text b (i : Int)) hx
   first
   | (have z : ¬ cn b x = (i : Int) := hno
      rw [show cg (p.pages.take k) (du b (i : Int)) = cg (p.pages.take (k + 1)) (du b (i : Int)) by rw [e1]; unfold du; rw [decide_eq_false z]; rfl, show cg (p.pages.take k) (eh p.text b (i : Int)) = cg (p.pages.take (k + 1)) (eh p.text b (i : Int)) by rw [e2]; unfold eh; rw [decide_eq_false z]; rfl]
      exact ⟨k + 1, by omega, by omega, ⟨⟨rfl, rfl⟩, zF, zB, zN, zX⟩⟩)
   | (have z : b = true := hb
      rw [show ((cg (p.pages.take k) (du b (i : Int)) : Nat) : Int) + (x.well.length : Int) = ((cg (p.pages.take (k + 1)) (du b (i : Int)) : Nat) : Int) by rw [e1]; unfold du; rw [decide_eq_true hyes, cond_true, z]; rfl, show ((cg (p.pages.take k) (eh p.text b (i : Int)) : Nat) : Int) + ((d7 p.text x).length : Int) = ((cg (p.pages.take (k + 1)) (eh p.text b (i : Int)) : Nat) : Int) by rw [e2]; unfold eh; rw [decide_eq_true hyes, cond_true]; rfl]
      exact ⟨k + 1, by omega, by omega, ⟨⟨rfl, rfl⟩, zF, zB, zN, zX⟩⟩)
   | (have z : b = false := hb
      rw [show ((cg (p.pages.take k) (du b (i : Int)) : Nat) : Int) + (x.found.length : Int) = ((cg (p.pages.take (k + 1)) (du b (i : Int)) : Nat) : Int) by rw [e1]; unfold du; rw [decide_eq_true hyes, cond_true, z]; rfl, show ((cg (p.pages.take k) (eh p.text b (i : Int)) : Nat) : Int) + ((d7 p.text x).length : Int) = ((cg (p.pages.take (k + 1)) (eh p.text b (i : Int)) : Nat) : Int) by rw [e2]; unfold eh; rw [decide_eq_true hyes, cond_true]; rfl]
      exact ⟨k + 1, by omega, by omega, ⟨⟨rfl, rfl⟩, zF, zB, zN, zX⟩⟩)
  have hyes : cn b x = (i : Int) := by simpa using hc
  refine ax ?_
  refine K8 _ ?_
  refine yS fun _ K10 => ?_
  refine yR ?_
  refine yM rfl rfl ?_
  refine yE rfl rfl rfl ?_
  refine yM rfl rfl ?_
  try dsimp only [St.put]
  refine ae rfl (ba rfl rfl rfl (ufp p k x h.text hx (by omega) (by omega)) ?_)
  refine aa rfl (bp rfl rfl (List.length_map _)) ?_
  refine aa rfl (br rfl rfl rfl (by omega)) ?_
  refine yA rfl rfl ?_
  refine yN ?_
  dsimp only [St.put]
  refine K10 _ ?_
  refine yS fun _ K11 => ?_
  refine yR ?_
  refine yM rfl rfl ?_
  refine yN ?_
  dsimp only [St.put]
  refine K11 _ ?_
  refine aq rfl (fun hc => ?_) (fun hc => ?_)
  ·have hb : b = true := hc
   refine yR ?_
   refine yM rfl rfl ?_
   refine yF rfl rfl rfl rfl ?_
   refine yL rfl rfl rfl ?_
   refine yM rfl rfl ?_
   refine aa rfl (bw rfl rfl rfl rfl (bu (by assumption)) (Enc.len _)) ?_
   refine yF rfl rfl rfl rfl ?_
   refine yL rfl rfl rfl ?_
   refine aa rfl (bp rfl rfl (List.length_map _)) ?_
   refine aa rfl (br rfl rfl rfl (by omega)) ?_
   refine yA rfl rfl ?_
   refine yN ?_
   dsimp only [St.put]
   refine K7 _ ?_
   refine yR ?_
   refine yM rfl rfl ?_
   refine aa rfl (br rfl rfl rfl (by omega)) ?_
   refine yA rfl rfl ?_
   refine yN ?_
   dsimp only [St.put]
   have e1 := ot (g := du b (i : Int)) hx
   have e2 := ot (g := eh p.text b (i : Int)) hx
   first
   | (have z : ¬ cn b x = (i : Int) := hno
      rw [show cg (p.pages.take k) (du b (i : Int)) = cg (p.pages.take (k + 1)) (du b (i : Int)) by rw [e1]; unfold du; rw [decide_eq_false z]; rfl, show cg (p.pages.take k) (eh p.text b (i : Int)) = cg (p.pages.take (k + 1)) (eh p.text b (i : Int)) by rw [e2]; unfold eh; rw [decide_eq_false z]; rfl]
      exact ⟨k + 1, by omega, by omega, ⟨⟨rfl, rfl⟩, zF, zB, zN, zX⟩⟩)
   | (have z : b = true := hb
      rw [show ((cg (p.pages.take k) (du b (i : Int)) : Nat) : Int) + (x.well.length : Int) = ((cg (p.pages.take (k + 1)) (du b (i : Int)) : Nat) : Int) by rw [e1]; unfold du; rw [decide_eq_true hyes, cond_true, z]; rfl, show ((cg (p.pages.take k) (eh p.text b (i : Int)) : Nat) : Int) + ((d7 p.text x).length : Int) = ((cg (p.pages.take (k + 1)) (eh p.text b (i : Int)) : Nat) : Int) by rw [e2]; unfold eh; rw [decide_eq_true hyes, cond_true]; rfl]
      exact ⟨k + 1, by omega, by omega, ⟨⟨rfl, rfl⟩, zF, zB, zN, zX⟩⟩)
   | (have z : b = false := hb
      rw [show ((cg (p.pages.take k) (du b (i : Int)) : Nat) : Int) + (x.found.length : Int) = ((cg (p.pages.take (k + 1)) (du b (i : Int)) : Nat) : Int) by rw [e1]; unfold du; rw [decide_eq_true hyes, cond_true, z]; rfl, show ((cg (p.pages.take k) (eh p.text b (i : Int)) : Nat) : Int) + ((d7 p.text x).length : Int) = ((cg (p.pages.take (k + 1)) (eh p.text b (i : Int)) : Nat) : Int) by rw [e2]; unfold eh; rw [decide_eq_true hyes, cond_true]; rfl]
      exact ⟨k + 1, by omega, by omega, ⟨⟨rfl, rfl⟩, zF, zB, zN, zX⟩⟩)
  have hb : b = false := hc
  refine yR ?_
  refine yM rfl rfl ?_
  refine yF rfl rfl rfl rfl ?_
  refine yL rfl rfl rfl ?_
  refine yM rfl rfl ?_
  refine aa rfl (bw rfl rfl rfl rfl (bu (by assumption)) (Enc.len _)) ?_
  refine yF rfl rfl rfl rfl ?_
  refine yL rfl rfl rfl ?_
  refine aa rfl (bp rfl rfl (List.length_map _)) ?_
  refine aa rfl (br rfl rfl rfl (by omega)) ?_
  refine yA rfl rfl ?_
  refine yN ?_
  dsimp only [St.put]
  refine K7 _ ?_
  refine yR ?_
  refine yM rfl rfl ?_
  refine aa rfl (br rfl rfl rfl (by omega)) ?_
  refine yA rfl rfl ?_
  refine yN ?_
  dsimp only [St.put]
  have e1 := ot (g := du b (i : Int)) hx
  have e2 := ot (g := eh p.text b (i : Int)) hx
  first
  | (have z : ¬ cn b x = (i : Int) := hno
     rw [show cg (p.pages.take k) (du b (i : Int)) = cg (p.pages.take (k + 1)) (du b (i : Int)) by rw [e1]; unfold du; rw [decide_eq_false z]; rfl, show cg (p.pages.take k) (eh p.text b (i : Int)) = cg (p.pages.take (k + 1)) (eh p.text b (i : Int)) by rw [e2]; unfold eh; rw [decide_eq_false z]; rfl]
     exact ⟨k + 1, by omega, by omega, ⟨⟨rfl, rfl⟩, zF, zB, zN, zX⟩⟩)
  | (have z : b = true := hb
     rw [show ((cg (p.pages.take k) (du b (i : Int)) : Nat) : Int) + (x.well.length : Int) = ((cg (p.pages.take (k + 1)) (du b (i : Int)) : Nat) : Int) by rw [e1]; unfold du; rw [decide_eq_true hyes, cond_true, z]; rfl, show ((cg (p.pages.take k) (eh p.text b (i : Int)) : Nat) : Int) + ((d7 p.text x).length : Int) = ((cg (p.pages.take (k + 1)) (eh p.text b (i : Int)) : Nat) : Int) by rw [e2]; unfold eh; rw [decide_eq_true hyes, cond_true]; rfl]
     exact ⟨k + 1, by omega, by omega, ⟨⟨rfl, rfl⟩, zF, zB, zN, zX⟩⟩)
  | (have z : b = false := hb
     rw [show ((cg (p.pages.take k) (du b (i : Int)) : Nat) : Int) + (x.found.length : Int) = ((cg (p.pages.take (k + 1)) (du b (i : Int)) : Nat) : Int) by rw [e1]; unfold du; rw [decide_eq_true hyes, cond_true, z]; rfl, show ((cg (p.pages.take k) (eh p.text b (i : Int)) : Nat) : Int) + ((d7 p.text x).length : Int) = ((cg (p.pages.take (k + 1)) (eh p.text b (i : Int)) : Nat) : Int) by rw [e2]; unfold eh; rw [decide_eq_true hyes, cond_true]; rfl]
     exact ⟨k + 1, by omega, by omega, ⟨⟨rfl, rfl⟩, zF, zB, zN, zX⟩⟩)
 replace hc := of_decide_eq_false hc
 obtain rfl : k = p.pages.length := by omega
 refine c6 ?_
 refine K3 _ ?_
 refine yS fun _ K12 => ?_
 refine yR ?_
 refine yA rfl rfl ?_
 refine yN ?_
 dsimp only [St.put]
 rw [ia (Nat.le_refl p.pages.length)]
 refine K12 _ ?_
 refine yS fun _ K13 => ?_
 refine yS fun _ K14 => ?_
 refine yR ?_
 refine yM rfl rfl ?_
 refine yN ?_
 dsimp only [St.put]
 refine K14 _ ?_
 refine aq rfl (fun hc => ?_) (fun hc => ?_)
 ·have hb2 : b = true := hc
  have hr2 : p.seconds[i]? = some r := by rw [hb2] at hr; exact hr
  have hil := (List.getElem?_eq_some_iff.1 hr2).1
  refine yR ?_
  refine yF rfl rfl rfl rfl ?_
  refine yL rfl rfl rfl ?_
  refine yM rfl rfl ?_
  refine aa rfl (bw rfl rfl rfl rfl (bu (by assumption)) (Enc.len _)) ?_
  refine yF rfl rfl rfl rfl ?_
  refine yL rfl rfl rfl ?_
  refine yA rfl rfl ?_
  refine yN ?_
  dsimp only [St.put]
  refine K13 _ ?_
  refine yS fun _ K15 => ?_
  refine yR ?_
  refine yM rfl rfl ?_
  refine aa rfl (ra rfl rfl rfl (by omega)) ?_
  refine yM rfl rfl ?_
  refine aa rfl (gr rfl rfl rfl (by omega)) ?_
  refine aa rfl (uv rfl rfl rfl (by omega) (by omega)) ?_
  refine yA rfl rfl ?_
  refine yN ?_
  dsimp only [St.put]
  rw [show (100 * ((cg p.pages (du b (i : Int)) : Nat) : Int)) / (100 - r.miss) = je p b i by unfold je; rw [hmr]]
  have hbd := uay h b i
  refine K15 _ ?_
  refine yS fun _ K16 => ?_
  refine yR ?_
  refine yM rfl rfl ?_
  refine yM rfl rfl ?_
  refine yM rfl rfl ?_
  refine aa rfl (gr rfl rfl rfl (by omega)) ?_
  refine yA rfl rfl ?_
  refine yA rfl rfl ?_
  refine yN ?_
  dsimp only [St.put]
  refine K16 _ ?_
  refine ar ?_
  refine ld rfl (by constructor) (by constructor) zN zS ?_ ?_
  ·rfl
  exact vi (by unfold ne; rfl)
 have hb2 : b = false := hc
 have hr2 : p.firsts[i]? = some r := by rw [hb2] at hr; exact hr
 have hil := (List.getElem?_eq_some_iff.1 hr2).1
 refine yR ?_
 refine yF rfl rfl rfl rfl ?_
 refine yL rfl rfl rfl ?_
 refine yM rfl rfl ?_
 refine aa rfl (bw rfl rfl rfl rfl (bu (by assumption)) (Enc.len _)) ?_
 refine yF rfl rfl rfl rfl ?_
 refine yL rfl rfl rfl ?_
 refine yA rfl rfl ?_
 refine yN ?_
 dsimp only [St.put]
 refine K13 _ ?_
 refine yS fun _ K17 => ?_
 refine yR ?_
 refine yM rfl rfl ?_
 refine aa rfl (ra rfl rfl rfl (by omega)) ?_
 refine yM rfl rfl ?_
 refine aa rfl (gr rfl rfl rfl (by omega)) ?_
 refine aa rfl (uv rfl rfl rfl (by omega) (by omega)) ?_
 refine yA rfl rfl ?_
 refine yN ?_
 dsimp only [St.put]
 rw [show (100 * ((cg p.pages (du b (i : Int)) : Nat) : Int)) / (100 - r.miss) = je p b i by unfold je; rw [hmr]]
 have hbd := uay h b i
 refine K17 _ ?_
 refine yS fun _ K18 => ?_
 refine yR ?_
 refine yM rfl rfl ?_
 refine yM rfl rfl ?_
 refine yM rfl rfl ?_
 refine aa rfl (gr rfl rfl rfl (by omega)) ?_
 refine yA rfl rfl ?_
 refine yA rfl rfl ?_
 refine yN ?_
 dsimp only [St.put]
 refine K18 _ ?_
 refine ar ?_
 refine ld rfl (by constructor) (by constructor) zN zS ?_ ?_
 ·rfl
 exact vi (by unfold ne; rfl)
end Go.Proofs.YtgffhbbcpgdjjaaGreatDoor
namespace Go.Proofs.YtgffhbbcpgdjjaaGreatDoor
set_option maxRecDepth 10000
open Go Go.RowKit Go.AB
open Go.AB.Enc (cells)
open Go.PB (ay aj PlaceD bg bi bh bn ak ah cr bq dr dt)
theorem une (p : ah) : Pure Tryz.prog 135 [val p] (lst p.firsts) := by
 refine dg Tryz.func135 rfl (fun m => (bv _ _)) fun G nx => ?_
 simp only [Tryz.ntmps135, List.length_cons, List.length_nil, Nat.reduceAdd, Nat.reduceSub]
 refine cb fun hlt => ?_
 dsimp only at hlt
 refine yS fun _ K1 => ?_
 refine yR ?_
 try dsimp only [St.put]
 refine yB rfl rfl rfl ?_
 refine yA rfl rfl ?_
 refine yN ?_
 dsimp only [St.put]
 refine K1 _ ?_
 refine yS fun _ K2 => ?_
 refine yR ?_
 refine yF rfl rfl rfl rfl ?_
 refine yL rfl rfl rfl ?_
 refine yA rfl rfl ?_
 refine yN ?_
 dsimp only [St.put]
 refine K2 _ ?_
 refine ar ?_
 refine bj rfl (by constructor) zN zS ?_
 rfl
theorem und (x : ak) : Pure Tryz.prog 136 [val x] (.v (.int .i64 x.fst)) := by
 refine dg Tryz.func136 rfl (fun m => .v) fun G nx => ?_
 simp only [Tryz.ntmps136, List.length_cons, List.length_nil, Nat.reduceAdd, Nat.reduceSub]
 refine cb fun hlt => ?_
 dsimp only at hlt
 refine yS fun _ K1 => ?_
 refine yR ?_
 try dsimp only [St.put]
 refine yB rfl rfl rfl ?_
 refine yA rfl rfl ?_
 refine yN ?_
 dsimp only [St.put]
 refine K1 _ ?_
 refine yS fun _ K2 => ?_
 refine yR ?_
 refine yF rfl rfl rfl rfl ?_
 refine yL rfl rfl rfl ?_
 refine yA rfl rfl ?_
 refine yN ?_
 dsimp only [St.put]
 refine K2 _ ?_
 refine ar ?_
 refine bj rfl (by constructor) zN zS ?_
 rfl
theorem unc (x : ak) : Pure Tryz.prog 137 [val x] (lst x.found) := by
 refine dg Tryz.func137 rfl (fun m => (bv _ _)) fun G nx => ?_
 simp only [Tryz.ntmps137, List.length_cons, List.length_nil, Nat.reduceAdd, Nat.reduceSub]
 refine cb fun hlt => ?_
 dsimp only at hlt
 refine yS fun _ K1 => ?_
 refine yR ?_
 try dsimp only [St.put]
 refine yB rfl rfl rfl ?_
 refine yA rfl rfl ?_
 refine yN ?_
 dsimp only [St.put]
 refine K1 _ ?_
 refine yS fun _ K2 => ?_
 refine yR ?_
 refine yF rfl rfl rfl rfl ?_
 refine yL rfl rfl rfl ?_
 refine yA rfl rfl ?_
 refine yN ?_
 dsimp only [St.put]
 refine K2 _ ?_
 refine ar ?_
 refine bj rfl (by constructor) zN zS ?_
 rfl
theorem unb (p : ah) : Pure Tryz.prog 138 [val p] (lst p.seconds) := by
 refine dg Tryz.func138 rfl (fun m => (bv _ _)) fun G nx => ?_
 simp only [Tryz.ntmps138, List.length_cons, List.length_nil, Nat.reduceAdd, Nat.reduceSub]
 refine cb fun hlt => ?_
 dsimp only at hlt
 refine yS fun _ K1 => ?_
 refine yR ?_
 try dsimp only [St.put]
 refine yB rfl rfl rfl ?_
 refine yA rfl rfl ?_
 refine yN ?_
 dsimp only [St.put]
 refine K1 _ ?_
 refine yS fun _ K2 => ?_
 refine yR ?_
 refine yF rfl rfl rfl rfl ?_
 refine yL rfl rfl rfl ?_
 refine yA rfl rfl ?_
 refine yN ?_
 dsimp only [St.put]
 refine K2 _ ?_
 refine ar ?_
 refine bj rfl (by constructor) zN zS ?_
 rfl
theorem una (x : ak) : Pure Tryz.prog 139 [val x] (.v (.int .i64 x.snd)) := by
 refine dg Tryz.func139 rfl (fun m => .v) fun G nx => ?_
 simp only [Tryz.ntmps139, List.length_cons, List.length_nil, Nat.reduceAdd, Nat.reduceSub]
 refine cb fun hlt => ?_
 dsimp only at hlt
 refine yS fun _ K1 => ?_
 refine yR ?_
 try dsimp only [St.put]
 refine yB rfl rfl rfl ?_
 refine yA rfl rfl ?_
 refine yN ?_
 dsimp only [St.put]
 refine K1 _ ?_
 refine yS fun _ K2 => ?_
 refine yR ?_
 refine yF rfl rfl rfl rfl ?_
 refine yL rfl rfl rfl ?_
 refine yA rfl rfl ?_
 refine yN ?_
 dsimp only [St.put]
 refine K2 _ ?_
 refine ar ?_
 refine bj rfl (by constructor) zN zS ?_
 rfl
theorem um9 (x : ak) : Pure Tryz.prog 140 [val x] (lst x.well) := by
 refine dg Tryz.func140 rfl (fun m => (bv _ _)) fun G nx => ?_
 simp only [Tryz.ntmps140, List.length_cons, List.length_nil, Nat.reduceAdd, Nat.reduceSub]
 refine cb fun hlt => ?_
 dsimp only at hlt
 refine yS fun _ K1 => ?_
 refine yR ?_
 try dsimp only [St.put]
 refine yB rfl rfl rfl ?_
 refine yA rfl rfl ?_
 refine yN ?_
 dsimp only [St.put]
 refine K1 _ ?_
 refine yS fun _ K2 => ?_
 refine yR ?_
 refine yF rfl rfl rfl rfl ?_
 refine yL rfl rfl rfl ?_
 refine yA rfl rfl ?_
 refine yN ?_
 dsimp only [St.put]
 refine K2 _ ?_
 refine ar ?_
 refine bj rfl (by constructor) zN zS ?_
 rfl
def sRd (b : Bool) : FuncId := bif b then 138 else 135
def sFt (b : Bool) : FuncId := bif b then 139 else 136
def sFd (b : Bool) : FuncId := bif b then 140 else 137
instance (b : Bool) : Fun Tryz.prog (sRd b) := by
 cases b
 ·exact inferInstanceAs (Fun Tryz.prog 135)
 exact inferInstanceAs (Fun Tryz.prog 138)
instance (b : Bool) : Fun Tryz.prog (sFt b) := by
 cases b
 ·exact inferInstanceAs (Fun Tryz.prog 136)
 exact inferInstanceAs (Fun Tryz.prog 139)
instance (b : Bool) : Fun Tryz.prog (sFd b) := by
 cases b
 ·exact inferInstanceAs (Fun Tryz.prog 137)
 exact inferInstanceAs (Fun Tryz.prog 140)
theorem r8 (b : Bool) (p : ah) : Pure Tryz.prog (sRd b) [val p] (lst (cy p b)) := by
 cases b
 ·exact une p
 exact unb p
theorem ubt (b : Bool) (x : ak) : Pure Tryz.prog (sFt b) [val x] (.v (.int .i64 (cn b x))) := by
 cases b
 ·exact und x
 exact una x
theorem ufa (b : Bool) (x : ak) : Pure Tryz.prog (sFd b) [val x] (lst (d8 b x)) := by
 cases b
 ·exact unc x
 exact um9 x
abbrev qt (b : Bool) : List C := [.fn (.func (sRd b)) [], .fn (.func (sFt b)) [], .fn (.func (sFd b)) []]
abbrev sidL : List C := qt false ++ qt true
abbrev f8 : GObj := .fact (.pointer (some ⟨0, 0, none⟩)) (.elem sidL)
abbrev mh (p : ah) : List C := [lst p.text, lst p.firsts, lst p.seconds, lst p.pages, lst (p.pages.map fun x => (fh p.text x : Int)), lst (p.pages.map (d7 p.text)), lst (p.pages.map (er p.text))]
theorem zb : ∀ {k : Nat}, k < 2 → (sidL.drop (k * 3)).take 3 = qt (decide (k = 1))
 | 0, _ => rfl
 | 1, _ => rfl
 | k + 2, h => by omega
set_option maxHeartbeats 1000000 in
theorem uf7 (p : ah) (b : Bool) (i : Nat) (h : et p) (hi : i < (cy p b).length) : Pure Tryz.prog 47 [.elem (mh p), .agg (qt b), .v (.int .i64 (i : Int))] (.tup [.v (.int .i64 (je p b i)), .v (.int .i64 (ne p b i))]) := by
 refine dg Tryz.func47 rfl (fun m => .tup (ce .v (ce .v dq))) fun G nx => ?_
 simp only [Tryz.ntmps47, List.length_cons, List.length_nil, Nat.reduceAdd, Nat.reduceSub]
 refine cb fun hlt => ?_
 dsimp only at hlt
 have hown := ucd h b (i : Int)
 have hrd := ub6 h b (i : Int)
 have hal := mr h.text
 have hnp := h.np
 have hmb := zz h b i
 obtain ⟨r, hr⟩ : ∃ r, (cy p b)[i]? = some r := dl hi
 have hmr := uha hr
 refine yS fun _ K1 => ?_
 refine yR ?_
 try dsimp only [St.put]
 refine yB rfl rfl rfl ?_
 refine yA rfl rfl ?_
 refine yA rfl rfl ?_
 refine yN ?_
 dsimp only [St.put]
 refine K1 _ ?_
 refine yS fun _ K2 => ?_
 refine yR ?_
 refine yA rfl rfl ?_
 refine yA rfl rfl ?_
 refine yN ?_
 dsimp only [St.put]
 refine K2 _ ?_
 refine yS fun _ K3 => ?_
 refine yS fun _ K4 => ?_
 refine yR ?_
 refine yM rfl rfl ?_
 refine aa rfl (m5 rfl rfl) ?_
 refine yF rfl rfl rfl rfl ?_
 refine yF rfl rfl rfl rfl ?_
 refine yL rfl rfl rfl ?_
 refine aa rfl (bp rfl rfl (List.length_map _)) ?_
 refine yM rfl rfl ?_
 refine yN ?_
 dsimp only [St.put]
 refine K4 _ ?_
 refine bf ?_
 refine cm 20 ?_
 refine zQ ?_
 refine dm (G) zX ?_
 dsimp only
 refine dj (X := Nat) (fun k => k ≤ p.pages.length) (fun k => p.pages.length - k) (fun k => [(8, .v (.int .i64 ((cg (p.pages.take k) (du b (i : Int)) : Nat) : Int))), (9, .v (.int .i64 ((cg (p.pages.take k) (eh p.text b (i : Int)) : Nat) : Int))), (10, .any), (11, .any), (19, .v (.int .i64 (k : Int)))]) (fun k G' => G') 0 rfl ?_ ?_ (fun _ _ h => h) ?_ ?_ ?_
 ·exact Nat.zero_le _
 ·exact zF
 ·rintro k hI
  exact zL
 ·exact fun _ _ _ _ h => .inl h
 rintro k hI
 dsimp only at hI ⊢
 refine yS fun _ K5 => ?_
 refine yR ?_
 refine aa rfl (ck rfl rfl rfl) ?_
 refine yN ?_
 dsimp only [St.put]
 refine K5 _ ?_
 refine yS fun _ K6 => ?_
 refine aq rfl (fun hc => ?_) (fun hc => ?_)
 ·replace hc := of_decide_eq_true hc
  obtain ⟨x, hx⟩ : ∃ x, p.pages[k]? = some x := dl (by omega)
  have hax : (p.pages.map (d7 p.text))[k]? = some (d7 p.text x) := by rw [List.getElem?_map, hx]; rfl
  have hp := pageB_true.1 (h.page k x hx)
  have hfd : (d8 b x).length ≤ 600 := by
   have hfl := oe hp.found
   have hwl := oe hp.well
   cases b
   ·show x.found.length ≤ 600
    omega
   show x.well.length ≤ 600
   omega
  have hgl := vj p.text x
  have ht1 := y5 (l := p.pages) (g := du b (i : Int)) k
  have ht2 := y5 (l := p.pages) (g := eh p.text b (i : Int)) k
  refine ax ?_
  refine K6 _ ?_
  refine yS fun _ K7 => ?_
  refine bf ?_
  refine yS fun _ K8 => ?_
  refine yR ?_
  refine yM rfl rfl ?_
  refine aa rfl (bw rfl rfl rfl rfl (bu (by assumption)) (Enc.len _)) ?_
  refine yE rfl rfl rfl ?_
  try dsimp only [St.put]
  refine ae rfl (dx rfl ?_)
  refine yA rfl rfl ?_
  try dsimp only [St.put]
  refine ae rfl (di rfl rfl rfl zG rfl rfl (by rfl) ?_)
  refine yN ?_
  dsimp only [St.put]
  refine K8 _ ?_
  refine gg (i := 11) rfl zG zC ?_
  dsimp only
  refine yS fun _ K9 => ?_
  refine yR ?_
  refine yF rfl rfl rfl rfl ?_
  refine yL rfl rfl rfl ?_
  refine yE rfl rfl rfl ?_
  try dsimp only [St.put]
  refine ae rfl (ba rfl rfl rfl (ubt b x) ?_)
  refine yM rfl rfl ?_
  refine aa rfl (gl rfl rfl rfl) ?_
  refine yN ?_
  dsimp only [St.put]
  refine K9 _ ?_
  refine aq rfl (fun hc => ?_) (fun hc => ?_)
  ·have hyes : cn b x = (i : Int) := of_decide_eq_true hc
   refine yS fun _ K10 => ?_
   refine yR ?_
   refine yM rfl rfl ?_
   refine yF rfl rfl rfl rfl ?_
   refine yL rfl rfl rfl ?_
   refine yE rfl rfl rfl ?_
   try dsimp only [St.put]
   refine ae rfl (ba rfl rfl rfl (ufa b x) ?_)
   refine aa rfl (bp rfl rfl (List.length_map _)) ?_
   refine aa rfl (br rfl rfl rfl (by omega)) ?_
   refine yA rfl rfl ?_
   refine yN ?_
   dsimp only [St.put]
   refine K10 _ ?_
   refine yR ?_
   refine yM rfl rfl ?_
   refine yM rfl rfl ?_
   refine aa rfl (m5 rfl rfl) ?_
   refine yF rfl rfl rfl rfl ?_
   refine yL rfl rfl rfl ?_
   refine yM rfl rfl ?_
   refine aa rfl (bw rfl rfl rfl rfl (bu (by assumption)) (Enc.len _)) ?_
   refine yL rfl rfl rfl ?_
   refine aa rfl (bp rfl rfl (List.length_map _)) ?_
   refine aa rfl (br rfl rfl rfl (by omega)) ?_
   refine yA rfl rfl ?_
   refine yN ?_
   dsimp only [St.put]
   refine K7 _ ?_
   refine yR ?_
   refine aa rfl (br rfl rfl rfl (by omega)) ?_
   refine yM rfl rfl ?_
   refine yN ?_
   dsimp only [St.put]
   have e1 := ot (g := du b (i : Int)) hx
   have e2 := ot (g := eh p.text b (i : Int)) hx
   first
   | (have z : cn b x = (i : Int) := hyes
      rw [show ((cg (p.pages.take k) (du b (i : Int)) : Nat) : Int) + ((d8 b x).length : Int) = ((cg (p.pages.take (k + 1)) (du b (i : Int)) : Nat) : Int) by rw [e1]; unfold du; rw [decide_eq_true z, cond_true]; rfl, show ((cg (p.pages.take k) (eh p.text b (i : Int)) : Nat) : Int) + ((d7 p.text x).length : Int) = ((cg (p.pages.take (k + 1)) (eh p.text b (i : Int)) : Nat) : Int) by rw [e2]; unfold eh; rw [decide_eq_true z, cond_true]; rfl]
      exact ⟨k + 1, by omega, by omega, ⟨⟨rfl, rfl⟩, zF, zB, zN, zX⟩⟩)
   | (have z : ¬ cn b x = (i : Int) := hno
      rw [show cg (p.pages.take k) (du b (i : Int)) = cg (p.pages.take (k + 1)) (du b (i : Int)) by rw [e1]; unfold du; rw [decide_eq_false z]; rfl, show cg (p.pages.take k) (eh p.text b (i : Int)) = cg (p.pages.take (k + 1)) (eh p.text b (i : Int)) by rw [e2]; unfold eh; rw [decide_eq_false z]; rfl]
      exact ⟨k + 1, by omega, by omega, ⟨⟨rfl, rfl⟩, zF, zB, zN, zX⟩⟩)
  have hno : ¬ cn b x = (i : Int) := of_decide_eq_false hc
  refine ax ?_
  refine K7 _ ?_
  refine yR ?_
  refine aa rfl (br rfl rfl rfl (by omega)) ?_
  refine yM rfl rfl ?_
  refine yN ?_
  dsimp only [St.put]
  have e1 := ot (g := du b (i : Int)) hx
  have e2 := ot (g := eh p.text b (i : Int)) hx
  first
  | (have z : cn b x = (i : Int) := hyes
     rw [show ((cg (p.pages.take k) (du b (i : Int)) : Nat) : Int) + ((d8 b x).length : Int) = ((cg (p.pages.take (k + 1)) (du b (i : Int)) : Nat) : Int) by rw [e1]; unfold du; rw [decide_eq_true z, cond_true]; rfl, show ((cg (p.pages.take k) (eh p.text b (i : Int)) : Nat) : Int) + ((d7 p.text x).length : Int) = ((cg (p.pages.take (k + 1)) (eh p.text b (i : Int)) : Nat) : Int) by rw [e2]; unfold eh; rw [decide_eq_true z, cond_true]; rfl]
     exact ⟨k + 1, by omega, by omega, ⟨⟨rfl, rfl⟩, zF, zB, zN, zX⟩⟩)
  | (have z : ¬ cn b x = (i : Int) := hno
     rw [show cg (p.pages.take k) (du b (i : Int)) = cg (p.pages.take (k + 1)) (du b (i : Int)) by rw [e1]; unfold du; rw [decide_eq_false z]; rfl, show cg (p.pages.take k) (eh p.text b (i : Int)) = cg (p.pages.take (k + 1)) (eh p.text b (i : Int)) by rw [e2]; unfold eh; rw [decide_eq_false z]; rfl]
     exact ⟨k + 1, by omega, by omega, ⟨⟨rfl, rfl⟩, zF, zB, zN, zX⟩⟩)
 replace hc := of_decide_eq_false hc
 obtain rfl : k = p.pages.length := by omega
 rw [ia (Nat.le_refl p.pages.length)]
 refine c6 ?_
 refine K3 _ ?_
 refine yS fun _ K11 => ?_
 refine fw [(0, none), (1, none), (2, none), (3, none), (4, none), (5, none), (6, none), (7, none), (9, none), (8, none), (10, none), (11, none), (12, none), (13, none), (14, none), (15, none)] (fun i => [8, 12].contains i) (fun i => [8, 12].contains i) (fun i => [0, 1, 2, 4, 5, 6, 9, 10, 11, 13, 14, 15].contains i) [] (by kernel_rfl) (by kernel_rfl) ?_
 refine xM rfl rfl rfl rfl rfl ?_
 refine af rfl rfl rfl rfl (ra rfl rfl rfl (by omega)) ?_
 refine af rfl rfl rfl rfl (cp rfl rfl rfl) ?_
 try dsimp only [St.put]
 refine aw rfl rfl rfl rfl (ca rfl rfl) ?_
 refine xM rfl rfl rfl rfl rfl ?_
 refine af rfl rfl rfl rfl (m5 rfl rfl) ?_
 refine af rfl rfl rfl rfl (cp rfl rfl rfl) ?_
 try dsimp only [St.put]
 refine aw rfl rfl rfl rfl (c := val p) (jx (cs := mh p) rfl rfl (show 4 ≤ 7 by decide)) ?_
 refine xM rfl rfl rfl rfl rfl ?_
 refine gu ?_
 try dsimp only [St.put]
 refine f4 rfl rfl rfl rfl (ba rfl rfl rfl (r8 b p) ?_)
 try dsimp only [St.put]
 refine ec rfl rfl rfl rfl (bw rfl rfl rfl rfl (bu (by assumption)) (Enc.len _)) ?_
 refine ec rfl rfl rfl rfl (cp rfl rfl rfl) ?_
 try dsimp only [St.put]
 refine f4 rfl rfl rfl rfl (SStep.e' (D := fun _ => True) (ca rfl rfl) ?_)
 refine ec rfl rfl rfl rfl (gr rfl rfl rfl (by omega)) ?_
 refine ec rfl rfl rfl rfl (uv rfl rfl rfl (by omega) (by omega)) ?_
 refine ec rfl rfl rfl rfl (dp rfl (by constructor)) ?_
 refine gt ?_
 dsimp only [St.put]
 rw [show (100 * ((cg p.pages (du b (i : Int)) : Nat) : Int)) / (100 - r.miss) = je p b i by unfold je; rw [hmr]]
 have hbd := uay h b i
 refine K11 _ ?_
 refine yS fun _ K12 => ?_
 refine yR ?_
 refine yM rfl rfl ?_
 refine yM rfl rfl ?_
 refine yM rfl rfl ?_
 refine aa rfl (gr rfl rfl rfl (by omega)) ?_
 refine yA rfl rfl ?_
 refine yA rfl rfl ?_
 refine yN ?_
 dsimp only [St.put]
 refine K12 _ ?_
 refine ar ?_
 refine ld rfl (by constructor) (by constructor) zN zS ?_ ?_
 ·rfl
 exact vi (by unfold ne; rfl)
end Go.Proofs.YtgffhbbcpgdjjaaGreatDoor
namespace Go.AB
open Go Go.RowKit
open Go.AB.Enc (cells)
open Go.PB (ay aj PlaceD bg bi bh bn ak ah cr bq dr dt)
theorem uop {p : ah} (h : et p) {j : Nat} {x : ak} (hx : p.pages[j]? = some x) {k : Nat} (hk : k < (eg p x).length) : ∃ zn : Nat, (eg p x)[k]? = some (zn : Int) ∧ zn ≤ 6 := by
 have hp := pageB_true.1 (h.page j x hx)
 have h1 := hp.fst
 have h2 := hp.snd
 have h3 := h.nf
 have h4 := h.ns
 obtain ⟨z, hz⟩ : ∃ z, (eg p x)[k]? = some z := ⟨_, List.getElem?_eq_getElem hk⟩
 have hm := List.mem_of_getElem? hz
 have hb : 0 ≤ z ∧ z ≤ 6 := by
  unfold eg at hm
  rw [List.mem_append] at hm
  rcases hm with hm | hm
  ·by_cases q : 0 ≤ x.fst
   ·rw [decide_eq_true q, cond_true, List.mem_singleton] at hm; omega
   rw [decide_eq_false q] at hm; cases hm
  by_cases q : 0 ≤ x.snd
  ·rw [decide_eq_true q, cond_true, List.mem_singleton] at hm; omega
  rw [decide_eq_false q] at hm; cases hm
 exact ⟨z.toNat, by rw [hz]; congr 1; omega, by omega⟩
theorem ub5 (p : ah) (x : ak) : (eg p x).length ≤ 2 := by
 unfold eg
 rw [List.length_append]
 cases decide (0 ≤ x.fst) <;> cases decide (0 ≤ x.snd) <;> simp
end Go.AB
namespace Go.Proofs.YtgffhbbcpgdjjaaGreatDoor
set_option maxRecDepth 10000
open Go.RowKit Go.AB
open Go.AB.Enc (cells)
open Go.PB (ay aj PlaceD bg bi bh bn ak ah cr bq dr dt)
end Go.Proofs.YtgffhbbcpgdjjaaGreatDoor
namespace Go.Proofs.YtgffhbbcpgdjjaaGreatDoor
set_option maxRecDepth 10000
open Go.RowKit Go.AB
open Go.AB.Enc (cells)
open Go.PB (ay aj PlaceD bg bi bh bn ak ah cr bq dr dt)
end Go.Proofs.YtgffhbbcpgdjjaaGreatDoor
namespace Go.AB
open Go Go.RowKit
open Go.AB.Enc (cells)
open Go.PB (ay aj PlaceD bg bi bh)
theorem lt3 {a b c a' b' c' : Int} : f5 [a, b, c] [a', b', c'] < 0 ↔ a < a' ∨ a = a' ∧ (b < b' ∨ b = b' ∧ c < c') := by
 rw [qf (a := [a, b, c]) (b := [a', b', c']) rfl]; simp [ltW]
end Go.AB
namespace Go.Proofs.YtgffhbbcpgdjjaaGreatDoor
set_option maxRecDepth 10000
open Go.RowKit Go.AB
open Go.AB.Enc (cells)
open Go.PB (ay aj PlaceD bg bi bh)
theorem ukx (a b : PlaceD) : Pure Tryz.prog 92 [val a, val b] (.v (.bool (decide (f5 (dn a) (dn b) < 0)))) := by
 refine dg Tryz.func92 rfl (fun m => .v) fun G nx => ?_
 simp only [Tryz.ntmps92, List.length_cons, List.length_nil, Nat.reduceAdd, Nat.reduceSub]
 refine cb fun hlt => ?_
 dsimp only at hlt
 refine yS fun _ K1 => ?_
 refine yR ?_
 try dsimp only [St.put]
 refine yB rfl rfl rfl ?_
 try dsimp only [St.put]
 refine yB rfl rfl rfl ?_
 refine yA rfl rfl ?_
 refine yN ?_
 dsimp only [St.put]
 refine K1 _ ?_
 refine yS fun _ K2 => ?_
 refine yS fun _ K3 => ?_
 refine yR ?_
 refine yF rfl rfl rfl rfl ?_
 refine yL rfl rfl rfl ?_
 refine yF rfl rfl rfl rfl ?_
 refine yL rfl rfl rfl ?_
 refine aa rfl (gk rfl rfl rfl) ?_
 refine yN ?_
 dsimp only [St.put]
 refine K3 _ ?_
 refine aq rfl (fun hc => ?_) (fun hc => ?_)
 ·have h1 : a.ch ≠ b.ch := ke hc
  refine yS fun _ K4 => ?_
  refine yR ?_
  refine yF rfl rfl rfl rfl ?_
  refine yL rfl rfl rfl ?_
  refine yF rfl rfl rfl rfl ?_
  refine yL rfl rfl rfl ?_
  refine aa rfl (ck rfl rfl rfl) ?_
  refine yA rfl rfl ?_
  refine yN ?_
  dsimp only [St.put]
  refine K4 _ ?_
  refine ar ?_
  refine bj rfl (by constructor) zN zS ?_
  exact vb (by rw [decide_eq_decide, dn, dn, lt3]; omega)
 have h1 : a.ch = b.ch := i5 hc
 refine ax ?_
 refine K2 _ ?_
 refine yS fun _ K5 => ?_
 refine yS fun _ K6 => ?_
 refine yR ?_
 refine yF rfl rfl rfl rfl ?_
 refine yL rfl rfl rfl ?_
 refine yF rfl rfl rfl rfl ?_
 refine yL rfl rfl rfl ?_
 refine aa rfl (gk rfl rfl rfl) ?_
 refine yN ?_
 dsimp only [St.put]
 refine K6 _ ?_
 refine aq rfl (fun hc => ?_) (fun hc => ?_)
 ·have h2 : a.ln ≠ b.ln := ke hc
  refine yS fun _ K7 => ?_
  refine yR ?_
  refine yF rfl rfl rfl rfl ?_
  refine yL rfl rfl rfl ?_
  refine yF rfl rfl rfl rfl ?_
  refine yL rfl rfl rfl ?_
  refine aa rfl (ck rfl rfl rfl) ?_
  refine yA rfl rfl ?_
  refine yN ?_
  dsimp only [St.put]
  refine K7 _ ?_
  refine ar ?_
  refine bj rfl (by constructor) zN zS ?_
  exact vb (by rw [decide_eq_decide, dn, dn, lt3]; omega)
 have h2 : a.ln = b.ln := i5 hc
 refine ax ?_
 refine K5 _ ?_
 refine yS fun _ K8 => ?_
 refine yR ?_
 refine yF rfl rfl rfl rfl ?_
 refine yL rfl rfl rfl ?_
 refine yF rfl rfl rfl rfl ?_
 refine yL rfl rfl rfl ?_
 refine aa rfl (ck rfl rfl rfl) ?_
 refine yA rfl rfl ?_
 refine yN ?_
 dsimp only [St.put]
 refine K8 _ ?_
 refine ar ?_
 refine bj rfl (by constructor) zN zS ?_
 exact vb (by rw [decide_eq_decide, dn, dn, lt3]; omega)
end Go.Proofs.YtgffhbbcpgdjjaaGreatDoor
namespace Go.Proofs.YtgffhbbcpgdjjaaGreatDoor
set_option maxRecDepth 10000
open Go.RowKit Go.AB
open Go.AB.Enc (cells)
open Go.PB (ay aj PlaceD bg bi bh bn ak ah cr bq dr dt)
set_option maxHeartbeats 1000000 in
theorem ufq (t : aj) (x : ak) (r : Int) (l : List PlaceD) (ht : ed t = true) : Pure Tryz.prog 80 [gx t, val x, .v (.int .i64 r), lst l] (.v (.bool (i6 t x r l))) := by
 refine dg Tryz.func80 rfl (fun m => .v) fun G nx => ?_
 simp only [Tryz.ntmps80, List.length_cons, List.length_nil, Nat.reduceAdd, Nat.reduceSub]
 refine cb fun hlt => ?_
 dsimp only at hlt
 refine l9 3 (fun hfl => ?_)
 have hl0 := (fit_lst.1 hfl).1
 refine yS fun _ K1 => ?_
 refine yR ?_
 try dsimp only [St.put]
 refine yB rfl rfl rfl ?_
 try dsimp only [St.put]
 refine yB rfl rfl rfl ?_
 refine yA rfl rfl ?_
 refine yN ?_
 dsimp only [St.put]
 refine K1 _ ?_
 refine yS fun _ K2 => ?_
 refine yS fun _ K3 => ?_
 refine yR ?_
 refine yM rfl rfl ?_
 refine aa rfl (ck rfl rfl rfl) ?_
 refine ff (fun hs => ?_) (fun hs => ?_)
 ·have s1 : r < 0 := of_decide_eq_true hs
  refine yM rfl rfl ?_
  refine yM rfl rfl ?_
  refine aa rfl (bp rfl rfl (List.length_map _)) ?_
  refine aa rfl (ir rfl rfl rfl) ?_
  refine aa rfl (ci rfl rfl (by constructor)) ?_
  refine yN ?_
  dsimp only [St.put]
  refine K3 _ ?_
  refine aq rfl (fun hc => ?_) (fun hc => ?_)
  ·have s2 : 0 < l.length := by
    have := of_decide_eq_true hc
    omega
   refine yS fun _ K4 => ?_
   refine yR ?_
   refine yA rfl rfl ?_
   refine yN ?_
   dsimp only [St.put]
   refine K4 _ ?_
   refine ar ?_
   refine bj rfl (by constructor) zN zS ?_
   exact vb (by
    have e1 : ¬ 0 ≤ r := by omega
    have e2 : l ≠ [] := fun e => by rw [e] at s2; exact absurd s2 (by simp)
    simp [i6, e1, e2])
  have s3 : (decide (0 ≤ r) || decide (l = [])) = true := by
   first
   | (rw [decide_eq_true (show 0 ≤ r by omega)]; rfl)
   | (have := of_decide_eq_false hc
      have : l = [] := List.eq_nil_of_length_eq_zero (by omega)
      simp [this])
  refine ax ?_
  refine K2 _ ?_
  refine yS fun _ K5 => ?_
  refine yS fun _ K6 => ?_
  refine yR ?_
  refine yA rfl rfl ?_
  refine yN ?_
  dsimp only [St.put]
  refine K6 _ ?_
  refine bf ?_
  refine cm 10 ?_
  refine zQ ?_
  refine dm (G) zX ?_
  dsimp only
  refine dj (X := Nat) (fun i => i ≤ l.length ∧ el t x l i = true) (fun i => l.length - i) (fun i => [(9, .v (.int .i64 (i : Int)))]) (fun i G' => G') 0 rfl ?_ ?_ (fun _ _ h => h) ?_ ?_ ?_
  ·exact ⟨Nat.zero_le _, rfl⟩
  ·exact zF
  ·rintro i hI
   exact zL
  ·exact fun _ _ _ _ h => .inl h
  rintro i hI
  dsimp only at hI ⊢
  refine yS fun _ K7 => ?_
  refine yS fun _ K8 => ?_
  refine yR ?_
  refine yM rfl rfl ?_
  refine yM rfl rfl ?_
  refine aa rfl (bp rfl rfl (List.length_map _)) ?_
  refine aa rfl (ck rfl rfl rfl) ?_
  refine yN ?_
  dsimp only [St.put]
  refine K8 _ ?_
  refine aq rfl (fun hc => ?_) (fun hc => ?_)
  ·replace hc := of_decide_eq_true hc
   obtain ⟨q, hq⟩ : ∃ q, l[i]? = some q := dl (by omega)
   refine ax ?_
   refine K7 _ ?_
   refine yS fun _ K9 => ?_
   refine bf ?_
   refine cm 10 ?_
   refine zQ ?_
   refine lf (X := Bool) (fun d => kh t x l i = !d) (fun d => [(60, .v (.bool d))]) (fun d G' => G') rfl ?_ (fun _ _ _ _ h => .inl h) ?_ ?_
   ·rintro d hI
    exact zL
   ·refine t8 [(0, none), (1, none), (2, none), (3, none), (4, none)] (fun _ => false) (fun i => [1, 2, 3].contains i) 33 (rl [5, 33]) (by kernel_rfl) (by kernel_rfl) ?_
    try dsimp only [St.put]
    refine aw rfl rfl rfl rfl (dz rfl rfl rfl) ?_
    refine xM rfl rfl rfl rfl rfl ?_
    refine xM rfl rfl rfl rfl rfl ?_
    try dsimp only [St.put]
    refine af rfl rfl rfl rfl (bw rfl rfl rfl rfl (bu (by assumption)) (Enc.len _)) ?_
    try dsimp only [St.put]
    refine aw rfl rfl rfl rfl (dz rfl rfl (Enc.len _)) ?_
    refine cw ?_
    refine em [5] (by kernel_rfl) (by simp) ?_
    refine ep ?_ ?_
    ·try dsimp only [St.put]
     refine jp rfl rfl rfl (ba rfl rfl rfl (ukr t q ht) ?_)
     refine fp [(6, none), (7, none), (8, none), (9, none), (10, none), (11, none), (12, none), (14, none), (15, none), (16, none), (17, none)] (fun i => [6, 7, 9, 10, 11, 14, 16].contains i) 21 (rl [13, 1, 4, 20]) (by kernel_rfl) ?_
     refine af rfl rfl rfl rfl (ei rfl rfl) ?_
     refine lg (fun hs => ?_) (fun hs => ?_)
     ·have s4 := hs
      refine xM rfl rfl rfl rfl rfl ?_
      refine am rfl rfl rfl ?_
      refine am rfl rfl rfl ?_
      refine am rfl rfl rfl ?_
      refine am rfl rfl rfl ?_
      refine am rfl rfl rfl ?_
      refine am rfl rfl rfl ?_
      refine am rfl rfl rfl ?_
      refine am rfl rfl rfl ?_
      refine am rfl rfl rfl ?_
      refine cw ?_
      refine em [13] (by kernel_rfl) (by simp) ?_
      refine ep ?_ ?_
      ·refine g8 rfl rfl rfl ?_
       refine em [18] (by kernel_rfl) (by simp) ?_
       refine ep ?_ ?_
       ·refine g8 rfl rfl rfl ?_
        refine fp [(19, none), (20, none), (21, none), (22, none), (23, none), (24, none), (25, none), (26, none), (27, none), (28, none), (29, none), (30, none), (31, none), (32, none), (33, none)] (fun i => [19, 20, 21, 22, 23, 24, 25, 26, 27, 28, 30, 31, 32].contains i) 4 (rl [34, 4]) (by kernel_rfl) ?_
        refine am rfl rfl rfl ?_
        refine af rfl rfl rfl rfl (ci rfl rfl (by constructor)) ?_
        refine xM rfl rfl rfl rfl rfl ?_
        refine am rfl rfl rfl ?_
        refine am rfl rfl rfl ?_
        refine am rfl rfl rfl ?_
        refine am rfl rfl rfl ?_
        refine am rfl rfl rfl ?_
        refine am rfl rfl rfl ?_
        refine am rfl rfl rfl ?_
        refine am rfl rfl rfl ?_
        refine am rfl rfl rfl ?_
        refine am rfl rfl rfl ?_
        refine am rfl rfl rfl ?_
        refine am rfl rfl rfl ?_
        refine cw ?_
        refine em [34] (by kernel_rfl) (by simp) ?_
        refine ep ?_ ?_
        ·refine g8 rfl rfl rfl ?_
         refine fp [(35, none), (36, none), (37, none)] (fun i => [35, 36, 37].contains i) 0 (rl [38]) (by kernel_rfl) ?_
         refine am rfl rfl rfl ?_
         refine am rfl rfl rfl ?_
         refine af rfl rfl rfl rfl (ci rfl rfl (by constructor)) ?_
         refine cw ?_
         dsimp only [St.put]
         refine i9 (by kernel_rfl) ?_
         refine ⟨_, ?_, ⟨⟨rfl, rfl⟩, zF, zB, zN, zX⟩⟩
         simp_all [kh, dw, pd]
         try (intro h0; omega)
        exact eo
       exact eo
      exact eo
     have hqp : gj t q = true := by simpa using hs
     refine xM rfl rfl rfl rfl rfl ?_
     try dsimp only [St.put]
     refine aw rfl rfl rfl rfl (dz rfl rfl rfl) ?_
     refine xM rfl rfl rfl rfl rfl ?_
     refine xM rfl rfl rfl rfl rfl ?_
     try dsimp only [St.put]
     refine af rfl rfl rfl rfl (bw rfl rfl rfl rfl (bu (by assumption)) (Enc.len _)) ?_
     try dsimp only [St.put]
     refine aw rfl rfl rfl rfl (dz rfl rfl (Enc.len _)) ?_
     refine af rfl rfl rfl rfl (cp rfl rfl rfl) ?_
     try dsimp only [St.put]
     refine aw rfl rfl rfl rfl (ca rfl rfl) ?_
     refine af rfl rfl rfl rfl (cp rfl rfl rfl) ?_
     try dsimp only [St.put]
     refine aw rfl rfl rfl rfl (ca rfl rfl) ?_
     refine cw ?_
     refine em [13] (by kernel_rfl) (by simp) ?_
     refine ep ?_ ?_
     ·try dsimp only [St.put]
      refine jp rfl rfl rfl (ba rfl rfl rfl (zj t q ht hqp) ?_)
      refine em [18] (by kernel_rfl) (by simp) ?_
      refine ep ?_ ?_
      ·try dsimp only [St.put]
       refine jp rfl rfl rfl (ba rfl rfl rfl (sd _ _ _) ?_)
       refine fp [(19, none), (20, none), (21, none), (22, none), (23, none), (24, none), (25, none), (26, none), (27, none), (28, none), (29, none), (30, none), (31, none), (32, none), (33, none)] (fun i => [19, 20, 21, 22, 23, 24, 25, 26, 27, 28, 30, 31, 32].contains i) 4 (rl [34, 4]) (by kernel_rfl) ?_
       refine af rfl rfl rfl rfl (ei rfl rfl) ?_
       refine lg (fun hs => ?_) (fun hs => ?_)
       ·have s5 := hs
        refine af rfl rfl rfl rfl (cz rfl rfl (by constructor)) ?_
        refine xM rfl rfl rfl rfl rfl ?_
        refine am rfl rfl rfl ?_
        refine am rfl rfl rfl ?_
        refine am rfl rfl rfl ?_
        refine am rfl rfl rfl ?_
        refine am rfl rfl rfl ?_
        refine am rfl rfl rfl ?_
        refine am rfl rfl rfl ?_
        refine am rfl rfl rfl ?_
        refine am rfl rfl rfl ?_
        refine am rfl rfl rfl ?_
        refine am rfl rfl rfl ?_
        refine am rfl rfl rfl ?_
        refine cw ?_
        refine em [34] (by kernel_rfl) (by simp) ?_
        refine ep ?_ ?_
        ·refine g8 rfl rfl rfl ?_
         refine fp [(35, none), (36, none), (37, none)] (fun i => [35, 36, 37].contains i) 0 (rl [38]) (by kernel_rfl) ?_
         refine am rfl rfl rfl ?_
         refine am rfl rfl rfl ?_
         refine af rfl rfl rfl rfl (ci rfl rfl (by constructor)) ?_
         refine cw ?_
         dsimp only [St.put]
         refine i9 (by kernel_rfl) ?_
         refine ⟨_, ?_, ⟨⟨rfl, rfl⟩, zF, zB, zN, zX⟩⟩
         simp_all [kh, dw, pd]
         try (intro h0; omega)
        exact eo
       have s5 := hs
       refine af rfl rfl rfl rfl (cz rfl rfl (by constructor)) ?_
       refine xM rfl rfl rfl rfl rfl ?_
       refine xM rfl rfl rfl rfl rfl ?_
       refine af rfl rfl rfl rfl (ir rfl rfl rfl) ?_
       refine lg (fun hs => ?_) (fun hs => ?_)
       ·have s6 : 0 < i := by
         have := of_decide_eq_true hs
         omega
        obtain ⟨q0, hq0⟩ : ∃ q0, l[i - 1]? = some q0 := dl (by omega)
        refine xM rfl rfl rfl rfl rfl ?_
        refine xM rfl rfl rfl rfl rfl ?_
        refine xM rfl rfl rfl rfl rfl ?_
        refine af rfl rfl rfl rfl (gr rfl rfl rfl (by omega)) ?_
        try dsimp only [St.put]
        refine af rfl rfl rfl rfl (bw (k := i - 1) rfl rfl rfl (by omega) (bu hq0) (Enc.len _)) ?_
        try dsimp only [St.put]
        refine aw rfl rfl rfl rfl (dz rfl rfl (Enc.len _)) ?_
        refine xM rfl rfl rfl rfl rfl ?_
        refine xM rfl rfl rfl rfl rfl ?_
        try dsimp only [St.put]
        refine af rfl rfl rfl rfl (bw rfl rfl rfl rfl (bu (by assumption)) (Enc.len _)) ?_
        try dsimp only [St.put]
        refine aw rfl rfl rfl rfl (dz rfl rfl (Enc.len _)) ?_
        refine cw ?_
        refine em [34] (by kernel_rfl) (by simp) ?_
        refine ep ?_ ?_
        ·try dsimp only [St.put]
         refine jp rfl rfl rfl (ba rfl rfl rfl (ukx q0 q) ?_)
         refine fp [(35, none), (36, none), (37, none)] (fun i => [35, 36, 37].contains i) 0 (rl [38]) (by kernel_rfl) ?_
         refine af rfl rfl rfl rfl (ei rfl rfl) ?_
         refine af rfl rfl rfl rfl (ci rfl rfl (by constructor)) ?_
         refine af rfl rfl rfl rfl (cz rfl rfl (by constructor)) ?_
         refine cw ?_
         dsimp only [St.put]
         refine i9 (by kernel_rfl) ?_
         refine ⟨_, ?_, ⟨⟨rfl, rfl⟩, zF, zB, zN, zX⟩⟩
         simp_all [kh, dw, pd]
         try (intro h0; omega)
        exact eo
       have s6 : i = 0 := by
        have := of_decide_eq_false hs
        omega
       refine xM rfl rfl rfl rfl rfl ?_
       refine am rfl rfl rfl ?_
       refine am rfl rfl rfl ?_
       refine am rfl rfl rfl ?_
       refine am rfl rfl rfl ?_
       refine am rfl rfl rfl ?_
       refine am rfl rfl rfl ?_
       refine am rfl rfl rfl ?_
       refine am rfl rfl rfl ?_
       refine am rfl rfl rfl ?_
       refine cw ?_
       refine em [34] (by kernel_rfl) (by simp) ?_
       refine ep ?_ ?_
       ·refine g8 rfl rfl rfl ?_
        refine fp [(35, none), (36, none), (37, none)] (fun i => [35, 36, 37].contains i) 0 (rl [38]) (by kernel_rfl) ?_
        refine am rfl rfl rfl ?_
        refine af rfl rfl rfl rfl (cz rfl rfl (by constructor)) ?_
        refine af rfl rfl rfl rfl (cz rfl rfl (by constructor)) ?_
        refine cw ?_
        dsimp only [St.put]
        refine i9 (by kernel_rfl) ?_
        refine ⟨_, ?_, ⟨⟨rfl, rfl⟩, zF, zB, zN, zX⟩⟩
        simp_all [kh, dw, pd]
        try (intro h0; omega)
       exact eo
      exact eo
     exact eo
    exact eo
   rintro d hst
   dsimp only at hst ⊢
   refine aq rfl (fun hc => ?_) (fun hc => ?_)
   ·skip
    refine yS fun _ K11 => ?_
    refine yR ?_
    refine yA rfl rfl ?_
    refine yN ?_
    dsimp only [St.put]
    refine K11 _ ?_
    refine ar ?_
    refine bj rfl (by constructor) zN zS ?_
    exact vb (by
     have e : kh t x l i = false := by rw [hst, hc]; rfl
     have : el t x l l.length = false := by
      refine List.all_eq_false.2 ⟨i, List.mem_range.2 (by omega), by rw [e]; simp⟩
     simp [i6, this])
   skip
   refine ax ?_
   refine K9 _ ?_
   refine yR ?_
   refine yM rfl rfl ?_
   refine aa rfl (br rfl rfl rfl (by omega)) ?_
   refine yA rfl rfl ?_
   refine yN ?_
   dsimp only [St.put]
   exact ⟨i + 1, by omega, ⟨by omega, by rw [iw, hI.2, hst, hc]; rfl⟩, ⟨⟨rfl, rfl⟩, zF, zB, zN, zX⟩⟩
  replace hc := of_decide_eq_false hc
  obtain rfl : i = l.length := by omega
  refine c6 ?_
  refine K5 _ ?_
  refine yS fun _ K12 => ?_
  refine yR ?_
  refine yA rfl rfl ?_
  refine yN ?_
  dsimp only [St.put]
  refine K12 _ ?_
  refine ar ?_
  refine bj rfl (by constructor) zN zS ?_
  exact vb (by
   unfold i6
   rw [hI.2, Bool.and_true]
   first
   | exact s3.symm
   | (have e1 : 0 ≤ r := by omega
      simp [e1]))
 have s1 : ¬ r < 0 := of_decide_eq_false hs
 refine yM rfl rfl ?_
 refine yK rfl ?_
 refine yK rfl ?_
 refine yK rfl ?_
 refine aa rfl (cz rfl rfl (by constructor)) ?_
 refine yN ?_
 dsimp only [St.put]
 refine K3 _ ?_
 refine aq rfl (fun h => by cases h) (fun _ => ?_)
 have s3 : (decide (0 ≤ r) || decide (l = [])) = true := by
  first
  | (rw [decide_eq_true (show 0 ≤ r by omega)]; rfl)
  | (have := of_decide_eq_false hc
     have : l = [] := List.eq_nil_of_length_eq_zero (by omega)
     simp [this])
 refine ax ?_
 refine K2 _ ?_
 refine yS fun _ K13 => ?_
 refine yS fun _ K14 => ?_
 refine yR ?_
 refine yA rfl rfl ?_
 refine yN ?_
 dsimp only [St.put]
 refine K14 _ ?_
 refine bf ?_
 refine cm 10 ?_
 refine zQ ?_
 refine dm (G) zX ?_
 dsimp only
 refine dj (X := Nat) (fun i => i ≤ l.length ∧ el t x l i = true) (fun i => l.length - i) (fun i => [(9, .v (.int .i64 (i : Int)))]) (fun i G' => G') 0 rfl ?_ ?_ (fun _ _ h => h) ?_ ?_ ?_
 ·exact ⟨Nat.zero_le _, rfl⟩
 ·exact zF
 ·rintro i hI
  exact zL
 ·exact fun _ _ _ _ h => .inl h
 rintro i hI
 dsimp only at hI ⊢
 refine yS fun _ K15 => ?_
 refine yS fun _ K16 => ?_
 refine yR ?_
 refine yM rfl rfl ?_
 refine yM rfl rfl ?_
 refine aa rfl (bp rfl rfl (List.length_map _)) ?_
 refine aa rfl (ck rfl rfl rfl) ?_
 refine yN ?_
 dsimp only [St.put]
 refine K16 _ ?_
 refine aq rfl (fun hc => ?_) (fun hc => ?_)
 ·replace hc := of_decide_eq_true hc
  obtain ⟨q, hq⟩ : ∃ q, l[i]? = some q := dl (by omega)
  refine ax ?_
  refine K15 _ ?_
  refine yS fun _ K17 => ?_
  refine bf ?_
  refine cm 10 ?_
  refine zQ ?_
  refine lf (X := Bool) (fun d => kh t x l i = !d) (fun d => [(60, .v (.bool d))]) (fun d G' => G') rfl ?_ (fun _ _ _ _ h => .inl h) ?_ ?_
  ·rintro d hI
   exact zL
  ·refine t8 [(0, none), (1, none), (2, none), (3, none), (4, none)] (fun _ => false) (fun i => [1, 2, 3].contains i) 33 (rl [5, 33]) (by kernel_rfl) (by kernel_rfl) ?_
   try dsimp only [St.put]
   refine aw rfl rfl rfl rfl (dz rfl rfl rfl) ?_
   refine xM rfl rfl rfl rfl rfl ?_
   refine xM rfl rfl rfl rfl rfl ?_
   try dsimp only [St.put]
   refine af rfl rfl rfl rfl (bw rfl rfl rfl rfl (bu (by assumption)) (Enc.len _)) ?_
   try dsimp only [St.put]
   refine aw rfl rfl rfl rfl (dz rfl rfl (Enc.len _)) ?_
   refine cw ?_
   refine em [5] (by kernel_rfl) (by simp) ?_
   refine ep ?_ ?_
   ·try dsimp only [St.put]
    refine jp rfl rfl rfl (ba rfl rfl rfl (ukr t q ht) ?_)
    refine fp [(6, none), (7, none), (8, none), (9, none), (10, none), (11, none), (12, none), (14, none), (15, none), (16, none), (17, none)] (fun i => [6, 7, 9, 10, 11, 14, 16].contains i) 21 (rl [13, 1, 4, 20]) (by kernel_rfl) ?_
    refine af rfl rfl rfl rfl (ei rfl rfl) ?_
    refine lg (fun hs => ?_) (fun hs => ?_)
    ·have s4 := hs
     refine xM rfl rfl rfl rfl rfl ?_
     refine am rfl rfl rfl ?_
     refine am rfl rfl rfl ?_
     refine am rfl rfl rfl ?_
     refine am rfl rfl rfl ?_
     refine am rfl rfl rfl ?_
     refine am rfl rfl rfl ?_
     refine am rfl rfl rfl ?_
     refine am rfl rfl rfl ?_
     refine am rfl rfl rfl ?_
     refine cw ?_
     refine em [13] (by kernel_rfl) (by simp) ?_
     refine ep ?_ ?_
     ·refine g8 rfl rfl rfl ?_
      refine em [18] (by kernel_rfl) (by simp) ?_
      refine ep ?_ ?_
      ·refine g8 rfl rfl rfl ?_
       refine fp [(19, none), (20, none), (21, none), (22, none), (23, none), (24, none), (25, none), (26, none), (27, none), (28, none), (29, none), (30, none), (31, none), (32, none), (33, none)] (fun i => [19, 20, 21, 22, 23, 24, 25, 26, 27, 28, 30, 31, 32].contains i) 4 (rl [34, 4]) (by kernel_rfl) ?_
       refine am rfl rfl rfl ?_
       refine af rfl rfl rfl rfl (ci rfl rfl (by constructor)) ?_
       refine xM rfl rfl rfl rfl rfl ?_
       refine am rfl rfl rfl ?_
       refine am rfl rfl rfl ?_
       refine am rfl rfl rfl ?_
       refine am rfl rfl rfl ?_
       refine am rfl rfl rfl ?_
       refine am rfl rfl rfl ?_
       refine am rfl rfl rfl ?_
       refine am rfl rfl rfl ?_
       refine am rfl rfl rfl ?_
       refine am rfl rfl rfl ?_
       refine am rfl rfl rfl ?_
       refine am rfl rfl rfl ?_
       refine cw ?_
       refine em [34] (by kernel_rfl) (by simp) ?_
       refine ep ?_ ?_
       ·refine g8 rfl rfl rfl ?_
        refine fp [(35, none), (36, none), (37, none)] (fun i => [35, 36, 37].contains i) 0 (rl [38]) (by kernel_rfl) ?_
        refine am rfl rfl rfl ?_
        refine am rfl rfl rfl ?_
        refine af rfl rfl rfl rfl (ci rfl rfl (by constructor)) ?_
        refine cw ?_
        dsimp only [St.put]
        refine i9 (by kernel_rfl) ?_
        refine ⟨_, ?_, ⟨⟨rfl, rfl⟩, zF, zB, zN, zX⟩⟩
        simp_all [kh, dw, pd]
        try (intro h0; omega)
       exact eo
      exact eo
     exact eo
    have hqp : gj t q = true := by simpa using hs
    refine xM rfl rfl rfl rfl rfl ?_
    try dsimp only [St.put]
    refine aw rfl rfl rfl rfl (dz rfl rfl rfl) ?_
    refine xM rfl rfl rfl rfl rfl ?_
    refine xM rfl rfl rfl rfl rfl ?_
    try dsimp only [St.put]
    refine af rfl rfl rfl rfl (bw rfl rfl rfl rfl (bu (by assumption)) (Enc.len _)) ?_
    try dsimp only [St.put]
    refine aw rfl rfl rfl rfl (dz rfl rfl (Enc.len _)) ?_
    refine af rfl rfl rfl rfl (cp rfl rfl rfl) ?_
    try dsimp only [St.put]
    refine aw rfl rfl rfl rfl (ca rfl rfl) ?_
    refine af rfl rfl rfl rfl (cp rfl rfl rfl) ?_
    try dsimp only [St.put]
    refine aw rfl rfl rfl rfl (ca rfl rfl) ?_
    refine cw ?_
    refine em [13] (by kernel_rfl) (by simp) ?_
    refine ep ?_ ?_
    ·try dsimp only [St.put]
     refine jp rfl rfl rfl (ba rfl rfl rfl (zj t q ht hqp) ?_)
     refine em [18] (by kernel_rfl) (by simp) ?_
     refine ep ?_ ?_
     ·try dsimp only [St.put]
      refine jp rfl rfl rfl (ba rfl rfl rfl (sd _ _ _) ?_)
      refine fp [(19, none), (20, none), (21, none), (22, none), (23, none), (24, none), (25, none), (26, none), (27, none), (28, none), (29, none), (30, none), (31, none), (32, none), (33, none)] (fun i => [19, 20, 21, 22, 23, 24, 25, 26, 27, 28, 30, 31, 32].contains i) 4 (rl [34, 4]) (by kernel_rfl) ?_
      refine af rfl rfl rfl rfl (ei rfl rfl) ?_
      refine lg (fun hs => ?_) (fun hs => ?_)
      ·have s5 := hs
       refine af rfl rfl rfl rfl (cz rfl rfl (by constructor)) ?_
       refine xM rfl rfl rfl rfl rfl ?_
       refine am rfl rfl rfl ?_
       refine am rfl rfl rfl ?_
       refine am rfl rfl rfl ?_
       refine am rfl rfl rfl ?_
       refine am rfl rfl rfl ?_
       refine am rfl rfl rfl ?_
       refine am rfl rfl rfl ?_
       refine am rfl rfl rfl ?_
       refine am rfl rfl rfl ?_
       refine am rfl rfl rfl ?_
       refine am rfl rfl rfl ?_
       refine am rfl rfl rfl ?_
       refine cw ?_
       refine em [34] (by kernel_rfl) (by simp) ?_
       refine ep ?_ ?_
       ·refine g8 rfl rfl rfl ?_
        refine fp [(35, none), (36, none), (37, none)] (fun i => [35, 36, 37].contains i) 0 (rl [38]) (by kernel_rfl) ?_
        refine am rfl rfl rfl ?_
        refine am rfl rfl rfl ?_
        refine af rfl rfl rfl rfl (ci rfl rfl (by constructor)) ?_
        refine cw ?_
        dsimp only [St.put]
        refine i9 (by kernel_rfl) ?_
        refine ⟨_, ?_, ⟨⟨rfl, rfl⟩, zF, zB, zN, zX⟩⟩
        simp_all [kh, dw, pd]
        try (intro h0; omega)
       exact eo
      have s5 := hs
      refine af rfl rfl rfl rfl (cz rfl rfl (by constructor)) ?_
      refine xM rfl rfl rfl rfl rfl ?_
      refine xM rfl rfl rfl rfl rfl ?_
      refine af rfl rfl rfl rfl (ir rfl rfl rfl) ?_
      refine lg (fun hs => ?_) (fun hs => ?_)
      ·have s6 : 0 < i := by
        have := of_decide_eq_true hs
        omega
       obtain ⟨q0, hq0⟩ : ∃ q0, l[i - 1]? = some q0 := dl (by omega)
       refine xM rfl rfl rfl rfl rfl ?_
       refine xM rfl rfl rfl rfl rfl ?_
       refine xM rfl rfl rfl rfl rfl ?_
       refine af rfl rfl rfl rfl (gr rfl rfl rfl (by omega)) ?_
       try dsimp only [St.put]
       refine af rfl rfl rfl rfl (bw (k := i - 1) rfl rfl rfl (by omega) (bu hq0) (Enc.len _)) ?_
       try dsimp only [St.put]
       refine aw rfl rfl rfl rfl (dz rfl rfl (Enc.len _)) ?_
       refine xM rfl rfl rfl rfl rfl ?_
       refine xM rfl rfl rfl rfl rfl ?_
       try dsimp only [St.put]
       refine af rfl rfl rfl rfl (bw rfl rfl rfl rfl (bu (by assumption)) (Enc.len _)) ?_
       try dsimp only [St.put]
       refine aw rfl rfl rfl rfl (dz rfl rfl (Enc.len _)) ?_
       refine cw ?_
       refine em [34] (by kernel_rfl) (by simp) ?_
       refine ep ?_ ?_
       ·try dsimp only [St.put]
        refine jp rfl rfl rfl (ba rfl rfl rfl (ukx q0 q) ?_)
        refine fp [(35, none), (36, none), (37, none)] (fun i => [35, 36, 37].contains i) 0 (rl [38]) (by kernel_rfl) ?_
        refine af rfl rfl rfl rfl (ei rfl rfl) ?_
        refine af rfl rfl rfl rfl (ci rfl rfl (by constructor)) ?_
        refine af rfl rfl rfl rfl (cz rfl rfl (by constructor)) ?_
        refine cw ?_
        dsimp only [St.put]
        refine i9 (by kernel_rfl) ?_
        refine ⟨_, ?_, ⟨⟨rfl, rfl⟩, zF, zB, zN, zX⟩⟩
        simp_all [kh, dw, pd]
        try (intro h0; omega)
       exact eo
      have s6 : i = 0 := by
       have := of_decide_eq_false hs
       omega
      refine xM rfl rfl rfl rfl rfl ?_
      refine am rfl rfl rfl ?_
      refine am rfl rfl rfl ?_
      refine am rfl rfl rfl ?_
      refine am rfl rfl rfl ?_
      refine am rfl rfl rfl ?_
      refine am rfl rfl rfl ?_
      refine am rfl rfl rfl ?_
      refine am rfl rfl rfl ?_
      refine am rfl rfl rfl ?_
      refine cw ?_
      refine em [34] (by kernel_rfl) (by simp) ?_
      refine ep ?_ ?_
      ·refine g8 rfl rfl rfl ?_
       refine fp [(35, none), (36, none), (37, none)] (fun i => [35, 36, 37].contains i) 0 (rl [38]) (by kernel_rfl) ?_
       refine am rfl rfl rfl ?_
       refine af rfl rfl rfl rfl (cz rfl rfl (by constructor)) ?_
       refine af rfl rfl rfl rfl (cz rfl rfl (by constructor)) ?_
       refine cw ?_
       dsimp only [St.put]
       refine i9 (by kernel_rfl) ?_
       refine ⟨_, ?_, ⟨⟨rfl, rfl⟩, zF, zB, zN, zX⟩⟩
       simp_all [kh, dw, pd]
       try (intro h0; omega)
      exact eo
     exact eo
    exact eo
   exact eo
  rintro d hst
  dsimp only at hst ⊢
  refine aq rfl (fun hc => ?_) (fun hc => ?_)
  ·skip
   refine yS fun _ K19 => ?_
   refine yR ?_
   refine yA rfl rfl ?_
   refine yN ?_
   dsimp only [St.put]
   refine K19 _ ?_
   refine ar ?_
   refine bj rfl (by constructor) zN zS ?_
   exact vb (by
    have e : kh t x l i = false := by rw [hst, hc]; rfl
    have : el t x l l.length = false := by
     refine List.all_eq_false.2 ⟨i, List.mem_range.2 (by omega), by rw [e]; simp⟩
    simp [i6, this])
  skip
  refine ax ?_
  refine K17 _ ?_
  refine yR ?_
  refine yM rfl rfl ?_
  refine aa rfl (br rfl rfl rfl (by omega)) ?_
  refine yA rfl rfl ?_
  refine yN ?_
  dsimp only [St.put]
  exact ⟨i + 1, by omega, ⟨by omega, by rw [iw, hI.2, hst, hc]; rfl⟩, ⟨⟨rfl, rfl⟩, zF, zB, zN, zX⟩⟩
 replace hc := of_decide_eq_false hc
 obtain rfl : i = l.length := by omega
 refine c6 ?_
 refine K13 _ ?_
 refine yS fun _ K20 => ?_
 refine yR ?_
 refine yA rfl rfl ?_
 refine yN ?_
 dsimp only [St.put]
 refine K20 _ ?_
 refine ar ?_
 refine bj rfl (by constructor) zN zS ?_
 exact vb (by
  unfold i6
  rw [hI.2, Bool.and_true]
  first
  | exact s3.symm
  | (have e1 : 0 ≤ r := by omega
     simp [e1]))
end Go.Proofs.YtgffhbbcpgdjjaaGreatDoor
namespace Go.AB
open Go Go.RowKit
open Go.AB.Enc (cells)
open Go.PB (ay aj PlaceD bg bi bh bn ak ah cr bq dr dt)
def oz (p : ah) (last : Int) (x : ak) : Bool := decide (last < x.fr) && decide (x.fr ≤ x.to) && decide (x.to < (ox p.text : Int)) && inB x.fst (-1) ((p.firsts.length : Int) - 1) && inB x.snd (-1) ((p.seconds.length : Int) - 1)
theorem zo (p : ah) (last : Int) (x : ak) : n5 p last x = (oz p last x && (i6 p.text x x.fst x.found && i6 p.text x x.snd x.well)) := by
 unfold n5 oz
 cases decide (last < x.fr) <;> cases decide (x.fr ≤ x.to) <;> cases decide (x.to < (ox p.text : Int)) <;> cases inB x.fst (-1) ((p.firsts.length : Int) - 1) <;> cases inB x.snd (-1) ((p.seconds.length : Int) - 1) <;> simp
theorem ub8 {p : ah} {j : Nat} {x : ak} (h : p.pages[j]? = some x) : w6 p j = n5 p (jc p.pages j) x := by unfold w6; rw [h]
theorem uhs {l : List ak} {j : Nat} {x : ak} (h : l[j]? = some x) : jc l (j + 1) = x.to := by simp only [jc, h]
theorem zm {p : ah} {j : Nat} {x : ak} (h : p.pages[j]? = some x) (hb : n5 p (jc p.pages j) x = false) : gz p = false := by
 have : tm p p.pages.length = false := List.all_eq_false.2 ⟨j, List.mem_range.2 (List.getElem?_eq_some_iff.1 h).1, by rw [ub8 h, hb]; simp⟩
 simp [gz, this]
end Go.AB
namespace Go.Proofs.YtgffhbbcpgdjjaaGreatDoor
set_option maxRecDepth 10000
open Go.RowKit Go.AB
open Go.AB.Enc (cells)
open Go.PB (ay aj PlaceD bg bi bh bn ak ah cr bq dr dt)
set_option maxHeartbeats 2000000 in
theorem uo1 (p : ah) (ht : ed p.text = true) : Pure Tryz.prog 61 [val p] (.v (.bool (gz p))) := by
 refine dg Tryz.func61 rfl (fun m => .v) fun G nx => ?_
 simp only [Tryz.ntmps61, List.length_cons, List.length_nil, Nat.reduceAdd, Nat.reduceSub]
 refine cb fun hlt => ?_
 dsimp only at hlt
 refine yS fun _ K1 => ?_
 refine yR ?_
 try dsimp only [St.put]
 refine yB rfl rfl rfl ?_
 refine yA rfl rfl ?_
 refine yN ?_
 dsimp only [St.put]
 refine K1 _ ?_
 refine yS fun _ K2 => ?_
 refine yS fun _ K3 => ?_
 refine yR ?_
 refine yF rfl rfl rfl rfl ?_
 refine yL rfl rfl rfl ?_
 refine aa rfl (bp rfl rfl (List.length_map _)) ?_
 refine aa rfl (ir rfl rfl rfl) ?_
 refine ff (fun hs => ?_) (fun hs => ?_)
 ·have s1 : ¬ p.firsts.length ≤ 3 := by
   have := of_decide_eq_true hs
   omega
  refine yM rfl rfl ?_
  refine yK rfl ?_
  refine yK rfl ?_
  refine yK rfl ?_
  refine yK rfl ?_
  refine aa rfl (ci rfl rfl (by constructor)) ?_
  refine yM rfl rfl ?_
  refine yK rfl ?_
  refine yK rfl ?_
  refine yK rfl ?_
  refine yK rfl ?_
  refine aa rfl (ci rfl rfl (by constructor)) ?_
  refine yN ?_
  dsimp only [St.put]
  refine K3 _ ?_
  refine aq rfl (fun _ => ?_) (fun h => by cases h)
  refine yS fun _ K4 => ?_
  refine yR ?_
  refine yA rfl rfl ?_
  refine yN ?_
  dsimp only [St.put]
  refine K4 _ ?_
  refine ar ?_
  refine bj rfl (by constructor) zN zS ?_
  exact vb (by first | (simp [gz, kz, s1]; done) | (simp [gz, kz, s2]; done) | (simp [gz, s3]; done))
 have s1 : p.firsts.length ≤ 3 := by
  have := of_decide_eq_false hs
  omega
 refine yM rfl rfl ?_
 refine yF rfl rfl rfl rfl ?_
 refine yL rfl rfl rfl ?_
 refine aa rfl (bp rfl rfl (List.length_map _)) ?_
 refine aa rfl (ir rfl rfl rfl) ?_
 refine ff (fun hs => ?_) (fun hs => ?_)
 ·have s2 : ¬ p.seconds.length ≤ 3 := by
   have := of_decide_eq_true hs
   omega
  refine aa rfl (cz rfl rfl (by constructor)) ?_
  refine yM rfl rfl ?_
  refine yK rfl ?_
  refine yK rfl ?_
  refine yK rfl ?_
  refine yK rfl ?_
  refine aa rfl (ci rfl rfl (by constructor)) ?_
  refine yN ?_
  dsimp only [St.put]
  refine K3 _ ?_
  refine aq rfl (fun _ => ?_) (fun h => by cases h)
  refine yS fun _ K5 => ?_
  refine yR ?_
  refine yA rfl rfl ?_
  refine yN ?_
  dsimp only [St.put]
  refine K5 _ ?_
  refine ar ?_
  refine bj rfl (by constructor) zN zS ?_
  exact vb (by first | (simp [gz, kz, s1]; done) | (simp [gz, kz, s2]; done) | (simp [gz, s3]; done))
 have s2 : p.seconds.length ≤ 3 := by
  have := of_decide_eq_false hs
  omega
 refine aa rfl (cz rfl rfl (by constructor)) ?_
 refine yM rfl rfl ?_
 refine yF rfl rfl rfl rfl ?_
 refine yL rfl rfl rfl ?_
 refine aa rfl (bp rfl rfl (List.length_map _)) ?_
 refine aa rfl (ir rfl rfl rfl) ?_
 refine ff (fun hs => ?_) (fun hs => ?_)
 ·have s3 : ¬ p.pages.length ≤ 8 := by
   have := of_decide_eq_true hs
   omega
  refine aa rfl (cz rfl rfl (by constructor)) ?_
  refine yN ?_
  dsimp only [St.put]
  refine K3 _ ?_
  refine aq rfl (fun _ => ?_) (fun h => by cases h)
  refine yS fun _ K6 => ?_
  refine yR ?_
  refine yA rfl rfl ?_
  refine yN ?_
  dsimp only [St.put]
  refine K6 _ ?_
  refine ar ?_
  refine bj rfl (by constructor) zN zS ?_
  exact vb (by first | (simp [gz, kz, s1]; done) | (simp [gz, kz, s2]; done) | (simp [gz, s3]; done))
 have s3 : p.pages.length ≤ 8 := by
  have := of_decide_eq_false hs
  omega
 obtain ⟨A, hA⟩ : ∃ A, p.firsts ++ p.seconds = A := ⟨_, rfl⟩
 have hAl : A.length ≤ 6 := by rw [← hA, List.length_append]; omega
 refine aa rfl (cz rfl rfl (by constructor)) ?_
 refine yN ?_
 dsimp only [St.put]
 refine K3 _ ?_
 refine aq rfl (fun h => by cases h) (fun _ => ?_)
 refine ax ?_
 refine K2 _ ?_
 refine yS fun _ K7 => ?_
 refine yR ?_
 refine yA rfl rfl ?_
 refine yN ?_
 dsimp only [St.put]
 refine K7 _ ?_
 refine uj8 3 47 2 rfl (by decide) ?_
 refine yS fun _ K8 => ?_
 refine fw [(0, none), (1, none), (2, none), (4, none), (5, none), (3, none), (6, none), (7, none)] (fun i => [6].contains i) (fun i => [3, 6].contains i) (fun i => [0, 1, 4, 7].contains i) [] (by kernel_rfl) (by kernel_rfl) ?_
 refine xM rfl rfl rfl rfl rfl ?_
 refine af rfl rfl rfl rfl (cp rfl rfl rfl) ?_
 try dsimp only [St.put]
 refine aw rfl rfl rfl rfl (ca rfl rfl) ?_
 refine af rfl rfl rfl rfl (cp rfl rfl rfl) ?_
 try dsimp only [St.put]
 refine aw rfl rfl rfl rfl (ca rfl rfl) ?_
 refine gu ?_
 try dsimp only [St.put]
 refine ij rfl rfl rfl (rm (xs := ([] : List bn)) p.firsts rfl rfl zG rfl rfl rfl rfl zA zA (fun v1 => ⟨zD, ?_⟩))
 try dsimp only [St.put]
 refine ij rfl rfl rfl (rm (xs := ([] : List bn) ++ p.firsts) p.seconds rfl rfl zG rfl rfl rfl rfl zA zA (fun v2 => ⟨zD, ?_⟩))
 refine ec rfl rfl rfl rfl (dp rfl (by constructor)) ?_
 refine gt ?_
 dsimp only [St.put]
 refine K8 _ ?_
 refine udn 3 (([] : List bn) ++ p.firsts ++ p.seconds) rfl zG rfl rfl rfl ?_
 refine dm G zX ?_
 dsimp only
 rw [show ([] : List bn) ++ p.firsts ++ p.seconds = A from hA]
 refine yS fun _ K9 => ?_
 refine yS fun _ K10 => ?_
 refine yR ?_
 refine yA rfl rfl ?_
 refine yN ?_
 dsimp only [St.put]
 refine K10 _ ?_
 refine bf ?_
 refine cm 9 ?_
 refine zQ ?_
 refine dm (G) zX ?_
 dsimp only
 refine dj (X := Nat) (fun i => i ≤ A.length ∧ (A.take i).all io = true ∧ ((A.take i).map (·.id)).Nodup) (fun i => A.length - i) (fun i => [(4, .v (.int .i64 (i : Int))), (5, .any)]) (fun i G' => G') 0 rfl ?_ ?_ (fun _ _ h => h) ?_ ?_ ?_
 ·exact ⟨Nat.zero_le _, rfl, by simp⟩
 ·exact zF
 ·rintro i hI
  exact zL
 ·exact fun _ _ _ _ h => .inl h
 rintro i hI
 dsimp only at hI ⊢
 refine yS fun _ K11 => ?_
 refine yS fun _ K12 => ?_
 refine yR ?_
 refine yM rfl rfl ?_
 refine yM rfl rfl ?_
 refine aa rfl (bp rfl rfl (List.length_map _)) ?_
 refine aa rfl (ck rfl rfl rfl) ?_
 refine yN ?_
 dsimp only [St.put]
 refine K12 _ ?_
 refine aq rfl (fun hc => ?_) (fun hc => ?_)
 ·replace hc := of_decide_eq_true hc
  obtain ⟨r, hr⟩ : ∃ r, A[i]? = some r := dl (by omega)
  refine ax ?_
  refine K11 _ ?_
  refine yS fun _ K13 => ?_
  refine bf ?_
  refine yS fun _ K14 => ?_
  refine yS fun _ K15 => ?_
  refine yR ?_
  refine yM rfl rfl ?_
  refine yM rfl rfl ?_
  refine aa rfl (bw rfl rfl rfl rfl (bu (by assumption)) (Enc.len _)) ?_
  refine yF rfl rfl rfl rfl ?_
  refine yL rfl rfl rfl ?_
  try dsimp only [St.put]
  refine ae rfl (ba rfl rfl rfl (sd _ _ _) ?_)
  refine aa rfl (ei rfl rfl) ?_
  refine ff (fun hs => ?_) (fun hs => ?_)
  ·have q1 : inB r.id 0 9999 = false := by simpa using hs
   refine yM rfl rfl ?_
   refine yK rfl ?_
   refine yK rfl ?_
   refine yK rfl ?_
   refine yK rfl ?_
   refine yK rfl ?_
   refine yK rfl ?_
   refine yK rfl ?_
   refine aa rfl (ci rfl rfl (by constructor)) ?_
   refine yN ?_
   dsimp only [St.put]
   refine K15 _ ?_
   refine aq rfl (fun _ => ?_) (fun h => by cases h)
   refine yS fun _ K16 => ?_
   refine yR ?_
   refine yA rfl rfl ?_
   refine yN ?_
   dsimp only [St.put]
   refine K16 _ ?_
   refine ar ?_
   refine bj rfl (by constructor) zN zS ?_
   exact vb (by
    have hb : io r = false := by first | (simp [io, q1]; done) | (simp [io, q2]; done)
    have : A.all io = false := ma hr hb
    rw [← hA] at this
    simp only [gz, kz, this, Bool.and_false, Bool.false_and])
  have q1 : inB r.id 0 9999 = true := by simpa using hs
  refine yM rfl rfl ?_
  refine yM rfl rfl ?_
  refine yM rfl rfl ?_
  refine aa rfl (bw rfl rfl rfl rfl (bu (by assumption)) (Enc.len _)) ?_
  refine yF rfl rfl rfl rfl ?_
  refine yL rfl rfl rfl ?_
  try dsimp only [St.put]
  refine ae rfl (ba rfl rfl rfl (sd _ _ _) ?_)
  refine aa rfl (ei rfl rfl) ?_
  refine ff (fun hs => ?_) (fun hs => ?_)
  ·have q2 : inB r.miss 0 90 = false := by simpa using hs
   refine aa rfl (cz rfl rfl (by constructor)) ?_
   refine yN ?_
   dsimp only [St.put]
   refine K15 _ ?_
   refine aq rfl (fun _ => ?_) (fun h => by cases h)
   refine yS fun _ K17 => ?_
   refine yR ?_
   refine yA rfl rfl ?_
   refine yN ?_
   dsimp only [St.put]
   refine K17 _ ?_
   refine ar ?_
   refine bj rfl (by constructor) zN zS ?_
   exact vb (by
    have hb : io r = false := by first | (simp [io, q1]; done) | (simp [io, q2]; done)
    have : A.all io = false := ma hr hb
    rw [← hA] at this
    simp only [gz, kz, this, Bool.and_false, Bool.false_and])
  have q2 : inB r.miss 0 90 = true := by simpa using hs
  have hrb : io r = true := by simp [io, q1, q2]
  refine aa rfl (cz rfl rfl (by constructor)) ?_
  refine yN ?_
  dsimp only [St.put]
  refine K15 _ ?_
  refine aq rfl (fun h => by cases h) (fun _ => ?_)
  refine ax ?_
  refine K14 _ ?_
  refine yS fun _ K18 => ?_
  refine yR ?_
  refine yA rfl rfl ?_
  refine yN ?_
  dsimp only [St.put]
  refine K18 _ ?_
  refine bf ?_
  refine cm 9 ?_
  refine zQ ?_
  refine dm (G) zX ?_
  dsimp only
  refine dj (X := Nat) (fun k => k ≤ i ∧ ∀ y ∈ A.take k, y.id ≠ r.id) (fun k => i - k) (fun k => [(5, .v (.int .i64 (k : Int)))]) (fun k G' => G') 0 rfl ?_ ?_ (fun _ _ h => h) ?_ ?_ ?_
  ·exact ⟨Nat.zero_le _, by simp⟩
  ·exact zF
  ·rintro k hI
   exact zL
  ·exact fun _ _ _ _ h => .inl h
  rintro k hJ
  dsimp only at hJ ⊢
  refine yS fun _ K19 => ?_
  refine yS fun _ K20 => ?_
  refine yR ?_
  refine yM rfl rfl ?_
  refine yM rfl rfl ?_
  refine aa rfl (ck rfl rfl rfl) ?_
  refine yN ?_
  dsimp only [St.put]
  refine K20 _ ?_
  refine aq rfl (fun hc => ?_) (fun hc => ?_)
  ·replace hc := of_decide_eq_true hc
   obtain ⟨y, hy⟩ : ∃ y, A[k]? = some y := dl (by omega)
   refine ax ?_
   refine K19 _ ?_
   refine yS fun _ K21 => ?_
   refine bf ?_
   refine yS fun _ K22 => ?_
   refine fw [(0, none), (1, none), (2, none), (3, none), (4, none), (5, none), (6, none), (7, none), (8, none), (9, none), (10, none)] (fun i => [].contains i) (fun i => [].contains i) (fun i => [0, 1, 2, 3, 5, 6, 7, 8, 10].contains i) [] (by kernel_rfl) (by kernel_rfl) ?_
   refine xM rfl rfl rfl rfl rfl ?_
   refine xM rfl rfl rfl rfl rfl ?_
   try dsimp only [St.put]
   refine af rfl rfl rfl rfl (bw rfl rfl rfl rfl (bu (by assumption)) (Enc.len _)) ?_
   refine af rfl rfl rfl rfl (cp rfl rfl rfl) ?_
   try dsimp only [St.put]
   refine aw rfl rfl rfl rfl (ca rfl rfl) ?_
   refine xM rfl rfl rfl rfl rfl ?_
   refine xM rfl rfl rfl rfl rfl ?_
   try dsimp only [St.put]
   refine af rfl rfl rfl rfl (bw rfl rfl rfl rfl (bu (by assumption)) (Enc.len _)) ?_
   refine af rfl rfl rfl rfl (cp rfl rfl rfl) ?_
   try dsimp only [St.put]
   refine aw rfl rfl rfl rfl (ca rfl rfl) ?_
   refine af rfl rfl rfl rfl (gl rfl rfl rfl) ?_
   refine cw ?_
   dsimp only [St.put]
   refine K22 _ ?_
   refine aq rfl (fun hc => ?_) (fun hc => ?_)
   ·have hyr : y.id = r.id := of_decide_eq_true hc
    refine yS fun _ K23 => ?_
    refine yR ?_
    refine yA rfl rfl ?_
    refine yN ?_
    dsimp only [St.put]
    refine K23 _ ?_
    refine ar ?_
    refine bj rfl (by constructor) zN zS ?_
    exact vb (by
     have : ¬ (A.map (·.id)).Nodup := uci hy hr (by omega) hyr
     rw [← hA] at this
     simp only [gz, kz, decide_eq_false this, Bool.and_false, Bool.false_and])
   have hne : y.id ≠ r.id := of_decide_eq_false hc
   refine ax ?_
   refine K21 _ ?_
   refine yR ?_
   refine yM rfl rfl ?_
   refine aa rfl (br rfl rfl rfl (by omega)) ?_
   refine yA rfl rfl ?_
   refine yN ?_
   dsimp only [St.put]
   exact ⟨k + 1, by omega, ⟨by omega, uco (p := fun y : bn => y.id ≠ r.id) hy hne hJ.2⟩, ⟨⟨rfl, rfl⟩, zF, zB, zN, zX⟩⟩
  replace hc := of_decide_eq_false hc
  have hki : k = i := by omega
  rw [hki] at hJ
  have hnd : r.id ∉ (A.take i).map (·.id) := fun hm => by
   obtain ⟨y, hy1, hy2⟩ := List.mem_map.1 hm
   exact hJ.2 y hy1 hy2
  refine c6 ?_
  refine K13 _ ?_
  refine yR ?_
  refine yM rfl rfl ?_
  refine aa rfl (br rfl rfl rfl (by omega)) ?_
  refine yA rfl rfl ?_
  refine yN ?_
  dsimp only [St.put]
  exact ⟨i + 1, by omega, ⟨by omega, by rw [ud hr, hI.2.1, hrb]; rfl, by rw [sg hr]; exact ucj hI.2.2 hnd⟩, ⟨⟨rfl, rfl⟩, zF, zB, zN, zX⟩⟩
 replace hc := of_decide_eq_false hc
 have hRB : kz p = true := by
  have h1 := hI.2.1
  have h2 := hI.2.2
  rw [ia (show A.length ≤ i by omega), ← hA] at h1 h2
  unfold kz
  rw [h1, decide_eq_true h2, decide_eq_true s1, decide_eq_true s2]; rfl
 refine c6 ?_
 refine K9 _ ?_
 refine yS fun _ K24 => ?_
 refine yR ?_
 refine yA rfl rfl ?_
 refine yN ?_
 dsimp only [St.put]
 refine K24 _ ?_
 refine yS fun _ K25 => ?_
 refine yS fun _ K26 => ?_
 refine yR ?_
 refine yA rfl rfl ?_
 refine yN ?_
 dsimp only [St.put]
 refine K26 _ ?_
 refine bf ?_
 refine cm 9 ?_
 refine zQ ?_
 refine dm (G) zX ?_
 dsimp only
 refine dj (X := Nat) (fun j => j ≤ p.pages.length ∧ tm p j = true) (fun j => p.pages.length - j) (fun j => [(6, .v (.int .i64 (jc p.pages j))), (7, .v (.int .i64 (j : Int))), (8, .any)]) (fun j G' => G') 0 rfl ?_ ?_ (fun _ _ h => h) ?_ ?_ ?_
 ·exact ⟨Nat.zero_le _, rfl⟩
 ·exact zF
 ·rintro j hI
  exact zL
 ·exact fun _ _ _ _ h => .inl h
 rintro j hK
 dsimp only at hK ⊢
 refine yS fun _ K27 => ?_
 refine yS fun _ K28 => ?_
 refine yR ?_
 refine yM rfl rfl ?_
 refine yF rfl rfl rfl rfl ?_
 refine yL rfl rfl rfl ?_
 refine aa rfl (bp rfl rfl (List.length_map _)) ?_
 refine aa rfl (ck rfl rfl rfl) ?_
 refine yN ?_
 dsimp only [St.put]
 refine K28 _ ?_
 refine aq rfl (fun hc => ?_) (fun hc => ?_)
 ·replace hc := of_decide_eq_true hc
  obtain ⟨x, hx⟩ : ∃ x, p.pages[j]? = some x := dl (by omega)
  refine ax ?_
  refine K27 _ ?_
  refine yS fun _ K29 => ?_
  refine bf ?_
  refine yS fun _ K30 => ?_
  refine yR ?_
  refine yF rfl rfl rfl rfl ?_
  refine yL rfl rfl rfl ?_
  refine yM rfl rfl ?_
  refine aa rfl (bw rfl rfl rfl rfl (bu (by assumption)) (Enc.len _)) ?_
  refine yE rfl rfl rfl ?_
  try dsimp only [St.put]
  refine ae rfl (dx rfl ?_)
  try dsimp only [St.put]
  refine ae rfl (di rfl rfl rfl zG rfl rfl (by rfl) ?_)
  refine yN ?_
  dsimp only [St.put]
  refine K30 _ ?_
  refine gg (i := 8) rfl zG zC ?_
  dsimp only
  refine yS fun _ K31 => ?_
  refine cm 9 ?_
  refine zQ ?_
  refine lf (X := Bool) (fun d => oz p (jc p.pages j) x = !d) (fun d => [(120, .v (.bool d))]) (fun d G' => G') rfl ?_ (fun _ _ _ _ h => .inl h) ?_ ?_
  ·rintro d hI
   exact zL
  ·refine t8 [(0, none), (1, none), (2, none), (3, none), (4, none), (5, none), (6, none), (7, none), (8, none), (9, none), (10, none), (11, none), (12, none), (13, none), (14, none), (15, none)] (fun _ => false) (fun i => [0, 2, 3, 4, 5, 7, 9, 10, 11, 12, 14].contains i) 23 (rl [16, 23]) (by kernel_rfl) (by kernel_rfl) ?_
   refine af rfl rfl rfl rfl (cp rfl rfl rfl) ?_
   try dsimp only [St.put]
   refine aw rfl rfl rfl rfl (ca rfl rfl) ?_
   refine xM rfl rfl rfl rfl rfl ?_
   refine af rfl rfl rfl rfl (uw rfl rfl rfl) ?_
   refine lg (fun hs => ?_) (fun hs => ?_)
   ·have z1 : x.fr ≤ jc p.pages j := of_decide_eq_true hs
    refine xM rfl rfl rfl rfl rfl ?_
    refine am rfl rfl rfl ?_
    refine am rfl rfl rfl ?_
    refine am rfl rfl rfl ?_
    refine am rfl rfl rfl ?_
    refine am rfl rfl rfl ?_
    refine af rfl rfl rfl rfl (ci rfl rfl (by constructor)) ?_
    refine xM rfl rfl rfl rfl rfl ?_
    refine am rfl rfl rfl ?_
    refine am rfl rfl rfl ?_
    refine am rfl rfl rfl ?_
    refine am rfl rfl rfl ?_
    refine cw ?_
    refine em [16] (by kernel_rfl) (by simp) ?_
    refine ep ?_ ?_
    ·refine g8 rfl rfl rfl ?_
     refine fp [(17, none), (18, none), (19, none), (20, none), (21, none), (22, none), (23, none), (24, none), (25, none)] (fun i => [17, 18, 19, 20, 22, 24, 25].contains i) 13 (rl [26, 13]) (by kernel_rfl) ?_
     refine am rfl rfl rfl ?_
     refine af rfl rfl rfl rfl (ci rfl rfl (by constructor)) ?_
     refine xM rfl rfl rfl rfl rfl ?_
     refine am rfl rfl rfl ?_
     refine am rfl rfl rfl ?_
     refine am rfl rfl rfl ?_
     refine am rfl rfl rfl ?_
     refine am rfl rfl rfl ?_
     refine am rfl rfl rfl ?_
     refine cw ?_
     refine em [26] (by kernel_rfl) (by simp) ?_
     refine ep ?_ ?_
     ·refine g8 rfl rfl rfl ?_
      refine fp [(27, none), (28, none), (29, none), (30, none), (31, none), (32, none), (33, none), (34, none), (35, none)] (fun i => [27, 28, 29, 30, 32, 34, 35].contains i) 3 (rl [36, 3]) (by kernel_rfl) ?_
      refine am rfl rfl rfl ?_
      refine af rfl rfl rfl rfl (ci rfl rfl (by constructor)) ?_
      refine xM rfl rfl rfl rfl rfl ?_
      refine am rfl rfl rfl ?_
      refine am rfl rfl rfl ?_
      refine am rfl rfl rfl ?_
      refine am rfl rfl rfl ?_
      refine am rfl rfl rfl ?_
      refine am rfl rfl rfl ?_
      refine cw ?_
      refine em [36] (by kernel_rfl) (by simp) ?_
      refine ep ?_ ?_
      ·refine g8 rfl rfl rfl ?_
       refine fp [(37, none), (38, none)] (fun i => [37, 38].contains i) 0 (rl [39]) (by kernel_rfl) ?_
       refine am rfl rfl rfl ?_
       refine af rfl rfl rfl rfl (ci rfl rfl (by constructor)) ?_
       refine cw ?_
       dsimp only [St.put]
       refine i9 (by kernel_rfl) ?_
       refine ⟨_, ?_, ⟨⟨rfl, rfl⟩, zF, zB, zN, zX⟩⟩
       simp_all [oz]
       try (intro h0; omega)
      exact eo
     exact eo
    exact eo
   have z1 : ¬ x.fr ≤ jc p.pages j := of_decide_eq_false hs
   refine xM rfl rfl rfl rfl rfl ?_
   refine af rfl rfl rfl rfl (cp rfl rfl rfl) ?_
   try dsimp only [St.put]
   refine aw rfl rfl rfl rfl (ca rfl rfl) ?_
   refine af rfl rfl rfl rfl (cp rfl rfl rfl) ?_
   try dsimp only [St.put]
   refine aw rfl rfl rfl rfl (ca rfl rfl) ?_
   refine af rfl rfl rfl rfl (ck rfl rfl rfl) ?_
   refine lg (fun hs => ?_) (fun hs => ?_)
   ·have z2 : x.to < x.fr := of_decide_eq_true hs
    refine af rfl rfl rfl rfl (cz rfl rfl (by constructor)) ?_
    refine xM rfl rfl rfl rfl rfl ?_
    refine am rfl rfl rfl ?_
    refine am rfl rfl rfl ?_
    refine am rfl rfl rfl ?_
    refine am rfl rfl rfl ?_
    refine cw ?_
    refine em [16] (by kernel_rfl) (by simp) ?_
    refine ep ?_ ?_
    ·refine g8 rfl rfl rfl ?_
     refine fp [(17, none), (18, none), (19, none), (20, none), (21, none), (22, none), (23, none), (24, none), (25, none)] (fun i => [17, 18, 19, 20, 22, 24, 25].contains i) 13 (rl [26, 13]) (by kernel_rfl) ?_
     refine am rfl rfl rfl ?_
     refine af rfl rfl rfl rfl (ci rfl rfl (by constructor)) ?_
     refine xM rfl rfl rfl rfl rfl ?_
     refine am rfl rfl rfl ?_
     refine am rfl rfl rfl ?_
     refine am rfl rfl rfl ?_
     refine am rfl rfl rfl ?_
     refine am rfl rfl rfl ?_
     refine am rfl rfl rfl ?_
     refine cw ?_
     refine em [26] (by kernel_rfl) (by simp) ?_
     refine ep ?_ ?_
     ·refine g8 rfl rfl rfl ?_
      refine fp [(27, none), (28, none), (29, none), (30, none), (31, none), (32, none), (33, none), (34, none), (35, none)] (fun i => [27, 28, 29, 30, 32, 34, 35].contains i) 3 (rl [36, 3]) (by kernel_rfl) ?_
      refine am rfl rfl rfl ?_
      refine af rfl rfl rfl rfl (ci rfl rfl (by constructor)) ?_
      refine xM rfl rfl rfl rfl rfl ?_
      refine am rfl rfl rfl ?_
      refine am rfl rfl rfl ?_
      refine am rfl rfl rfl ?_
      refine am rfl rfl rfl ?_
      refine am rfl rfl rfl ?_
      refine am rfl rfl rfl ?_
      refine cw ?_
      refine em [36] (by kernel_rfl) (by simp) ?_
      refine ep ?_ ?_
      ·refine g8 rfl rfl rfl ?_
       refine fp [(37, none), (38, none)] (fun i => [37, 38].contains i) 0 (rl [39]) (by kernel_rfl) ?_
       refine am rfl rfl rfl ?_
       refine af rfl rfl rfl rfl (ci rfl rfl (by constructor)) ?_
       refine cw ?_
       dsimp only [St.put]
       refine i9 (by kernel_rfl) ?_
       refine ⟨_, ?_, ⟨⟨rfl, rfl⟩, zF, zB, zN, zX⟩⟩
       simp_all [oz]
       try (intro h0; omega)
      exact eo
     exact eo
    exact eo
   have z2 : ¬ x.to < x.fr := of_decide_eq_false hs
   refine af rfl rfl rfl rfl (cz rfl rfl (by constructor)) ?_
   refine xM rfl rfl rfl rfl rfl ?_
   refine af rfl rfl rfl rfl (cp rfl rfl rfl) ?_
   try dsimp only [St.put]
   refine aw rfl rfl rfl rfl (ca rfl rfl) ?_
   refine af rfl rfl rfl rfl (cp rfl rfl rfl) ?_
   try dsimp only [St.put]
   refine aw rfl rfl rfl rfl (c := gx p.text) (jx (cs := cells p) rfl rfl (show 1 ≤ 4 by decide)) ?_
   refine cw ?_
   refine em [16] (by kernel_rfl) (by simp) ?_
   refine ep ?_ ?_
   ·try dsimp only [St.put]
    refine jp rfl rfl rfl (ba rfl rfl rfl (uow p.text ht) ?_)
    refine fp [(17, none), (18, none), (19, none), (20, none), (21, none), (22, none), (23, none), (24, none), (25, none)] (fun i => [17, 18, 19, 20, 22, 24, 25].contains i) 13 (rl [26, 13]) (by kernel_rfl) ?_
    refine af rfl rfl rfl rfl (m6 rfl rfl rfl) ?_
    refine lg (fun hs => ?_) (fun hs => ?_)
    ·have z3 : (ox p.text : Int) ≤ x.to := of_decide_eq_true hs
     refine af rfl rfl rfl rfl (cz rfl rfl (by constructor)) ?_
     refine xM rfl rfl rfl rfl rfl ?_
     refine am rfl rfl rfl ?_
     refine am rfl rfl rfl ?_
     refine am rfl rfl rfl ?_
     refine am rfl rfl rfl ?_
     refine am rfl rfl rfl ?_
     refine am rfl rfl rfl ?_
     refine cw ?_
     refine em [26] (by kernel_rfl) (by simp) ?_
     refine ep ?_ ?_
     ·refine g8 rfl rfl rfl ?_
      refine fp [(27, none), (28, none), (29, none), (30, none), (31, none), (32, none), (33, none), (34, none), (35, none)] (fun i => [27, 28, 29, 30, 32, 34, 35].contains i) 3 (rl [36, 3]) (by kernel_rfl) ?_
      refine am rfl rfl rfl ?_
      refine af rfl rfl rfl rfl (ci rfl rfl (by constructor)) ?_
      refine xM rfl rfl rfl rfl rfl ?_
      refine am rfl rfl rfl ?_
      refine am rfl rfl rfl ?_
      refine am rfl rfl rfl ?_
      refine am rfl rfl rfl ?_
      refine am rfl rfl rfl ?_
      refine am rfl rfl rfl ?_
      refine cw ?_
      refine em [36] (by kernel_rfl) (by simp) ?_
      refine ep ?_ ?_
      ·refine g8 rfl rfl rfl ?_
       refine fp [(37, none), (38, none)] (fun i => [37, 38].contains i) 0 (rl [39]) (by kernel_rfl) ?_
       refine am rfl rfl rfl ?_
       refine af rfl rfl rfl rfl (ci rfl rfl (by constructor)) ?_
       refine cw ?_
       dsimp only [St.put]
       refine i9 (by kernel_rfl) ?_
       refine ⟨_, ?_, ⟨⟨rfl, rfl⟩, zF, zB, zN, zX⟩⟩
       simp_all [oz]
       try (intro h0; omega)
      exact eo
     exact eo
    have z3 : ¬ (ox p.text : Int) ≤ x.to := of_decide_eq_false hs
    refine af rfl rfl rfl rfl (cz rfl rfl (by constructor)) ?_
    refine xM rfl rfl rfl rfl rfl ?_
    refine af rfl rfl rfl rfl (cp rfl rfl rfl) ?_
    try dsimp only [St.put]
    refine aw rfl rfl rfl rfl (ca rfl rfl) ?_
    refine af rfl rfl rfl rfl (cp rfl rfl rfl) ?_
    try dsimp only [St.put]
    refine aw rfl rfl rfl rfl (ca rfl rfl) ?_
    refine af rfl rfl rfl rfl (bp rfl rfl (List.length_map _)) ?_
    refine af rfl rfl rfl rfl (gr rfl rfl rfl (by omega)) ?_
    refine cw ?_
    refine em [26] (by kernel_rfl) (by simp) ?_
    refine ep ?_ ?_
    ·try dsimp only [St.put]
     refine jp rfl rfl rfl (ba rfl rfl rfl (sd _ _ _) ?_)
     refine fp [(27, none), (28, none), (29, none), (30, none), (31, none), (32, none), (33, none), (34, none), (35, none)] (fun i => [27, 28, 29, 30, 32, 34, 35].contains i) 3 (rl [36, 3]) (by kernel_rfl) ?_
     refine af rfl rfl rfl rfl (ei rfl rfl) ?_
     refine lg (fun hs => ?_) (fun hs => ?_)
     ·have z4 : inB x.fst (-1) ((p.firsts.length : Int) - 1) = false := by simpa using hs
      refine af rfl rfl rfl rfl (cz rfl rfl (by constructor)) ?_
      refine xM rfl rfl rfl rfl rfl ?_
      refine am rfl rfl rfl ?_
      refine am rfl rfl rfl ?_
      refine am rfl rfl rfl ?_
      refine am rfl rfl rfl ?_
      refine am rfl rfl rfl ?_
      refine am rfl rfl rfl ?_
      refine cw ?_
      refine em [36] (by kernel_rfl) (by simp) ?_
      refine ep ?_ ?_
      ·refine g8 rfl rfl rfl ?_
       refine fp [(37, none), (38, none)] (fun i => [37, 38].contains i) 0 (rl [39]) (by kernel_rfl) ?_
       refine am rfl rfl rfl ?_
       refine af rfl rfl rfl rfl (ci rfl rfl (by constructor)) ?_
       refine cw ?_
       dsimp only [St.put]
       refine i9 (by kernel_rfl) ?_
       refine ⟨_, ?_, ⟨⟨rfl, rfl⟩, zF, zB, zN, zX⟩⟩
       simp_all [oz]
       try (intro h0; omega)
      exact eo
     have z4 : inB x.fst (-1) ((p.firsts.length : Int) - 1) = true := by simpa using hs
     refine af rfl rfl rfl rfl (cz rfl rfl (by constructor)) ?_
     refine xM rfl rfl rfl rfl rfl ?_
     refine af rfl rfl rfl rfl (cp rfl rfl rfl) ?_
     try dsimp only [St.put]
     refine aw rfl rfl rfl rfl (ca rfl rfl) ?_
     refine af rfl rfl rfl rfl (cp rfl rfl rfl) ?_
     try dsimp only [St.put]
     refine aw rfl rfl rfl rfl (ca rfl rfl) ?_
     refine af rfl rfl rfl rfl (bp rfl rfl (List.length_map _)) ?_
     refine af rfl rfl rfl rfl (gr rfl rfl rfl (by omega)) ?_
     refine cw ?_
     refine em [36] (by kernel_rfl) (by simp) ?_
     refine ep ?_ ?_
     ·try dsimp only [St.put]
      refine jp rfl rfl rfl (ba rfl rfl rfl (sd _ _ _) ?_)
      refine fp [(37, none), (38, none)] (fun i => [37, 38].contains i) 0 (rl [39]) (by kernel_rfl) ?_
      refine af rfl rfl rfl rfl (ei rfl rfl) ?_
      refine lg (fun hs => ?_) (fun hs => ?_)
      ·have z5 : inB x.snd (-1) ((p.seconds.length : Int) - 1) = false := by simpa using hs
       refine af rfl rfl rfl rfl (cz rfl rfl (by constructor)) ?_
       refine cw ?_
       dsimp only [St.put]
       refine i9 (by kernel_rfl) ?_
       refine ⟨_, ?_, ⟨⟨rfl, rfl⟩, zF, zB, zN, zX⟩⟩
       simp_all [oz]
       try (intro h0; omega)
      have z5 : inB x.snd (-1) ((p.seconds.length : Int) - 1) = true := by simpa using hs
      refine af rfl rfl rfl rfl (cz rfl rfl (by constructor)) ?_
      refine cw ?_
      dsimp only [St.put]
      refine i9 (by kernel_rfl) ?_
      refine ⟨_, ?_, ⟨⟨rfl, rfl⟩, zF, zB, zN, zX⟩⟩
      simp_all [oz]
      try (intro h0; omega)
     exact eo
    exact eo
   exact eo
  rintro d hst
  dsimp only at hst ⊢
  refine aq rfl (fun hc => ?_) (fun hc => ?_)
  ·have hhd : oz p (jc p.pages j) x = false := by rw [hst, hc]; rfl
   refine yS fun _ K33 => ?_
   refine yR ?_
   refine yA rfl rfl ?_
   refine yN ?_
   dsimp only [St.put]
   refine K33 _ ?_
   refine ar ?_
   refine bj rfl (by constructor) zN zS ?_
   exact vb (zm hx (by rw [zo, hhd]; rfl)).symm
  have hhd : oz p (jc p.pages j) x = true := by rw [hst, hc]; rfl
  refine ax ?_
  refine K31 _ ?_
  refine yS fun _ K34 => ?_
  refine yS fun _ K35 => ?_
  refine yR ?_
  refine yF rfl rfl rfl rfl ?_
  try dsimp only [St.put]
  refine bk rfl (c := gx p.text) (jx (cs := cells p) rfl rfl (show 1 ≤ 4 by decide)) ?_
  refine yE rfl rfl rfl ?_
  refine yF rfl rfl rfl rfl ?_
  refine yL rfl rfl rfl ?_
  refine yF rfl rfl rfl rfl ?_
  refine yL rfl rfl rfl ?_
  try dsimp only [St.put]
  refine ae rfl (ba rfl rfl rfl (ufq p.text x x.fst x.found ht) ?_)
  refine aa rfl (ei rfl rfl) ?_
  refine ff (fun hs => ?_) (fun hs => ?_)
  ·have hf1 : i6 p.text x x.fst x.found = false := by simpa using hs
   refine yM rfl rfl ?_
   refine yK rfl ?_
   refine yK rfl ?_
   refine yK rfl ?_
   refine yK rfl ?_
   refine yK rfl ?_
   refine yK rfl ?_
   refine yK rfl ?_
   refine yK rfl ?_
   refine yK rfl ?_
   refine aa rfl (ci rfl rfl (by constructor)) ?_
   refine yN ?_
   dsimp only [St.put]
   refine K35 _ ?_
   refine aq rfl (fun _ => ?_) (fun h => by cases h)
   refine yS fun _ K36 => ?_
   refine yR ?_
   refine yA rfl rfl ?_
   refine yN ?_
   dsimp only [St.put]
   refine K36 _ ?_
   refine ar ?_
   refine bj rfl (by constructor) zN zS ?_
   exact vb (zm hx (by rw [zo, hhd, hf1]; first | rfl | (rw [hf2]; rfl))).symm
  have hf1 : i6 p.text x x.fst x.found = true := by simpa using hs
  refine yM rfl rfl ?_
  refine yF rfl rfl rfl rfl ?_
  try dsimp only [St.put]
  refine bk rfl (c := gx p.text) (jx (cs := cells p) rfl rfl (show 1 ≤ 4 by decide)) ?_
  refine yE rfl rfl rfl ?_
  refine yF rfl rfl rfl rfl ?_
  refine yL rfl rfl rfl ?_
  refine yF rfl rfl rfl rfl ?_
  refine yL rfl rfl rfl ?_
  try dsimp only [St.put]
  refine ae rfl (ba rfl rfl rfl (ufq p.text x x.snd x.well ht) ?_)
  refine aa rfl (ei rfl rfl) ?_
  refine ff (fun hs => ?_) (fun hs => ?_)
  ·have hf2 : i6 p.text x x.snd x.well = false := by simpa using hs
   refine aa rfl (cz rfl rfl (by constructor)) ?_
   refine yN ?_
   dsimp only [St.put]
   refine K35 _ ?_
   refine aq rfl (fun _ => ?_) (fun h => by cases h)
   refine yS fun _ K37 => ?_
   refine yR ?_
   refine yA rfl rfl ?_
   refine yN ?_
   dsimp only [St.put]
   refine K37 _ ?_
   refine ar ?_
   refine bj rfl (by constructor) zN zS ?_
   exact vb (zm hx (by rw [zo, hhd, hf1]; first | rfl | (rw [hf2]; rfl))).symm
  have hf2 : i6 p.text x x.snd x.well = true := by simpa using hs
  refine aa rfl (cz rfl rfl (by constructor)) ?_
  refine yN ?_
  dsimp only [St.put]
  refine K35 _ ?_
  refine aq rfl (fun h => by cases h) (fun _ => ?_)
  refine ax ?_
  refine K34 _ ?_
  refine yR ?_
  refine yF rfl rfl rfl rfl ?_
  refine yL rfl rfl rfl ?_
  refine yA rfl rfl ?_
  refine yN ?_
  dsimp only [St.put]
  refine K29 _ ?_
  refine yR ?_
  refine yM rfl rfl ?_
  refine aa rfl (br rfl rfl rfl (by omega)) ?_
  refine yA rfl rfl ?_
  refine yN ?_
  dsimp only [St.put]
  rw [← uhs hx]
  exact ⟨j + 1, by omega, ⟨by omega, by rw [uf8, hK.2, ub8 hx, zo, hhd, hf1, hf2]; rfl⟩, ⟨⟨rfl, rfl⟩, zF, zB, zN, zX⟩⟩
 replace hc := of_decide_eq_false hc
 obtain rfl : j = p.pages.length := by omega
 refine c6 ?_
 refine K25 _ ?_
 refine yS fun _ K38 => ?_
 refine yR ?_
 refine yA rfl rfl ?_
 refine yN ?_
 dsimp only [St.put]
 refine K38 _ ?_
 refine ar ?_
 refine bj rfl (by constructor) zN zS ?_
 exact vb (by unfold gz; rw [hRB, hK.2, decide_eq_true s3]; rfl)
end Go.Proofs.YtgffhbbcpgdjjaaGreatDoor
namespace Go.AB
open Go Go.RowKit
open Go.AB.Enc (cells)
open Go.PB (ay aj PlaceD bg bi bh bn ak ah cr bq dr dt)
theorem uc {p : ah} {n : Int} (h : fe p n = 0) : dc p = 0 ∧ ∃ (j : Nat) (x : ak), n = (j : Int) ∧ p.pages[j]? = some x ∧ ov p n = x := by
 unfold fe at h
 by_cases hc : dc p = 0
 ·rw [decide_eq_true hc, cond_true] at h
  cases hb : inB n 0 ((p.pages.length : Int) - 1)
  ·rw [hb] at h; cases h
  rw [inB_true] at hb
  obtain ⟨x, hx⟩ : ∃ x, p.pages[n.toNat]? = some x := ⟨_, List.getElem?_eq_getElem (show n.toNat < p.pages.length by omega)⟩
  exact ⟨hc, n.toNat, x, by omega, hx, by unfold ov; rw [hx]; rfl⟩
 rw [decide_eq_false hc, cond_false] at h
 exact absurd h hc
end Go.AB
namespace Go.Proofs.YtgffhbbcpgdjjaaGreatDoor
set_option maxRecDepth 10000
open Go.RowKit Go.AB
open Go.AB.Enc (cells)
open Go.PB (ay aj PlaceD bg bi bh bn ak ah cr bq dr dt)
theorem uo3 (p : ah) : Pure Tryz.prog 34 [val p] (.v (.int .i64 (dc p))) := by
 refine dg Tryz.func34 rfl (fun m => .v) fun G nx => ?_
 simp only [Tryz.ntmps34, List.length_cons, List.length_nil, Nat.reduceAdd, Nat.reduceSub]
 refine cb fun hlt => ?_
 dsimp only at hlt
 refine yS fun _ K1 => ?_
 refine yR ?_
 try dsimp only [St.put]
 refine yB rfl rfl rfl ?_
 refine yA rfl rfl ?_
 refine yN ?_
 dsimp only [St.put]
 refine K1 _ ?_
 refine yS fun _ K2 => ?_
 refine yS fun _ K3 => ?_
 refine yR ?_
 refine yF rfl rfl rfl rfl ?_
 try dsimp only [St.put]
 refine bk rfl (c := gx p.text) (jx (cs := cells p) rfl rfl (show 1 ≤ 4 by decide)) ?_
 try dsimp only [St.put]
 refine ae rfl (ba rfl rfl rfl (uva p.text) ?_)
 refine yA rfl rfl ?_
 refine yN ?_
 dsimp only [St.put]
 refine K3 _ ?_
 refine yS fun _ K4 => ?_
 refine yR ?_
 refine yM rfl rfl ?_
 refine aa rfl (gk rfl rfl rfl) ?_
 refine yN ?_
 dsimp only [St.put]
 refine K4 _ ?_
 refine aq rfl (fun hc => ?_) (fun hc => ?_)
 ·have ht : ed p.text = false := by
   have h0 := ke hc
   unfold ju at h0
   cases h1 : ed p.text
   ·rfl
   rw [h1] at h0; exact absurd rfl h0
  refine yS fun _ K5 => ?_
  refine yR ?_
  refine yM rfl rfl ?_
  refine yA rfl rfl ?_
  refine yN ?_
  dsimp only [St.put]
  refine K5 _ ?_
  refine ar ?_
  refine bj rfl (by constructor) zN zS ?_
  exact vi (by simp [dc, ju, ht])
 have ht : ed p.text = true := by
  have h0 := i5 hc
  unfold ju at h0
  cases h1 : ed p.text
  ·rw [h1] at h0; cases h0
  rfl
 refine ax ?_
 refine K2 _ ?_
 refine yS fun _ K6 => ?_
 refine yS fun _ K7 => ?_
 refine yR ?_
 refine yE rfl rfl rfl ?_
 try dsimp only [St.put]
 refine ae rfl (ba rfl rfl rfl (uo1 p ht) ?_)
 refine aa rfl (ei rfl rfl) ?_
 refine yN ?_
 dsimp only [St.put]
 refine K7 _ ?_
 refine aq rfl (fun hc => ?_) (fun hc => ?_)
 ·have hp : gz p = false := by simpa using hc
  refine yS fun _ K8 => ?_
  refine yR ?_
  refine yA rfl rfl ?_
  refine yN ?_
  dsimp only [St.put]
  refine K8 _ ?_
  refine ar ?_
  refine bj rfl (by constructor) zN zS ?_
  exact vi (by simp [dc, ht, hp])
 have hp : gz p = true := by simpa using hc
 refine ax ?_
 refine K6 _ ?_
 refine yS fun _ K9 => ?_
 refine yR ?_
 refine yA rfl rfl ?_
 refine yN ?_
 dsimp only [St.put]
 refine K9 _ ?_
 refine ar ?_
 refine bj rfl (by constructor) zN zS ?_
 exact vi (by simp [dc, ht, hp])
end Go.Proofs.YtgffhbbcpgdjjaaGreatDoor
namespace Go.Proofs.YtgffhbbcpgdjjaaGreatDoor
set_option maxRecDepth 10000
open Go.RowKit Go.AB
open Go.AB.Enc (cells)
open Go.PB (ay aj PlaceD bg bi bh bn ak ah cr bq dr dt)
end Go.Proofs.YtgffhbbcpgdjjaaGreatDoor
namespace Go.Proofs.YtgffhbbcpgdjjaaGreatDoor
set_option maxRecDepth 10000
open Go.RowKit Go.AB
open Go.AB.Enc (cells)
open Go.PB (ay aj PlaceD bg bi bh bn ak ah cr bq dr dt)
end Go.Proofs.YtgffhbbcpgdjjaaGreatDoor
namespace Go.Proofs.YtgffhbbcpgdjjaaGreatDoor
set_option maxRecDepth 10000
open Go.RowKit Go.AB
open Go.AB.Enc (cells)
open Go.PB (ay aj PlaceD bg bi bh bn ak ah cr bq dr dt)
end Go.Proofs.YtgffhbbcpgdjjaaGreatDoor
