/-
  What the walks through the program rest on: values, states, steps, calls (FaNear, FbWords, AbFull, Lay, EhOrd, FcNear, FdNear, KzWords, GsNumber, KwWords, LaRef, PaFlow, PbData, AbInv, AbMixD, AbInvD, RcAny, PcWorst, PdPlain, PeSets, PfPlain, PpAdd, PgSides, PhApart, PiWhy, PjWhy, PlTruth, PqRest, AbTwin, AbCut, RaStd, OpenE, AbRem, AbBits, QaRef, QbRef, QcRef, RbSides, AbZero, AbGrow, AbCutN, AbNew, AbEntry, HdKeys, RcAdd, UaOwn).
-/
import Derived.Test.YtgffhbbcpgdjjaaDoorPartB
import Derived.Test.YtgffhbbcpgdjjaaDoorPartA
import Derived.Laws.Cover3
import Derived.Shelf.SlSortCmp.NoneTotal
import Derived.Test.YtgffhbbcpgdjjaaDoorProg
import Derived.ChangeKeysEq
import Derived.Lib.Hide
import Derived.Shelf.SlicesE.DeleteFunc
import Derived.Deep.Slices
import Derived.Lib.SmallJoins
import Derived.Carry
import Derived.ProofKit
import Derived.OpenShut
import Derived.WideKeyEntry
namespace Go.AB
open Go Go.RowKit
open Go.AB.Enc (cells)
open Go.PB (ay aj PlaceD bh bj bi)
/-- so many words of a line -/
def si (p : L2) (k : Nat) : List PlaceD := (List.range k).map fun (i : Nat) => ⟨p.1, p.2, (i : Int)⟩
theorem uhb (p : L2) (k : Nat) : (si p k).length = k := by simp [si]
def mq (t : aj) (f : L2 → Option L2) (p : L2) : List PlaceD := bif (f p).isSome then si p ((gp t p).getD []).length else []
def n9 (t : aj) (f : L2 → Option L2) (l : List L2) : List PlaceD := (l.map (mq t f)).flatten
def mj (t : aj) (f : L2 → Option L2) : List PlaceD := n9 t f (nj t)
theorem ug8 {t : aj} (ht : dl t = true) (f : L2 → Option L2) (p : L2) : (mq t f p).length ≤ 10 := by
 unfold mq
 cases (f p).isSome
 ·exact Nat.zero_le _
 ·rw [cond_true, uhb]
  cases h : gp t p with
  | none => exact Nat.zero_le _
  | some l => have := tg ht h; simp only [Option.getD_some]; omega
theorem udw {t : aj} (ht : dl t = true) (f : L2 → Option L2) (l : List L2) : (n9 t f l).length ≤ 10 * l.length := by
 induction l with
 | nil => exact Nat.zero_le _
 | cons p l ih =>
  have h1 := ug8 ht f p
  have : (n9 t f (p :: l)).length = (mq t f p).length + (n9 t f l).length := by simp [n9]
  rw [this, List.length_cons]
  omega
theorem ug0 {t : aj} {f : L2 → Option L2} {q : PlaceD} : q ∈ mj t f ↔ ey t q = true ∧ (f (q.ch, q.ln)).isSome = true := by
 unfold mj n9
 rw [List.mem_flatten]
 constructor
 ·rintro ⟨l, hl, hq⟩
  obtain ⟨p, hp, rfl⟩ := List.mem_map.1 hl
  obtain ⟨ws, hw⟩ := mem_lines.1 hp
  unfold mq at hq
  cases hf : (f p).isSome with
  | false => rw [hf] at hq; simp at hq
  | true =>
   rw [hf, cond_true, hw, Option.getD_some] at hq
   obtain ⟨i, hi, rfl⟩ := List.mem_map.1 hq
   rw [List.mem_range] at hi
   exact ⟨placeB_true.2 ⟨ws, hw, by dsimp only; omega, by dsimp only; omega⟩, hf⟩
 ·rintro ⟨h1, h2⟩
  obtain ⟨ws, hw, h3, h4⟩ := placeB_true.1 h1
  refine ⟨_, List.mem_map.2 ⟨(q.ch, q.ln), mem_lines.2 ⟨ws, hw⟩, rfl⟩, ?_⟩
  unfold mq
  rw [h2, cond_true, hw, Option.getD_some]
  refine List.mem_map.2 ⟨q.wd.toNat, List.mem_range.2 (by omega), ?_⟩
  have : ((q.wd.toNat : Nat) : Int) = q.wd := by omega
  rw [this]
/-- the numbers of a place -/
def da (q : PlaceD) : List Int := [q.ch, q.ln, q.wd]
theorem uhh {a b : PlaceD} (h : da a = da b) : a = b := by
 obtain ⟨a1, a2, a3⟩ := a
 obtain ⟨b1, b2, b3⟩ := b
 simp only [da, List.cons.injEq, and_true] at h
 obtain ⟨rfl, rfl, rfl⟩ := h
 rfl
theorem po : ∀ a : List Int, ¬ ltW a a
 | [] => by simp [ltW]
 | x :: a => by simp only [ltW]; rintro (h | ⟨_, h⟩); omega; exact po a h
theorem sg : ∀ {a b c : List Int}, ltW a b → ltW b c → ltW a c
 | [], _, _, h, _ => by simp [ltW] at h
 | _ :: _, [], _, h, _ => by simp [ltW] at h
 | _ :: _, _ :: _, [], _, k => by simp [ltW] at k
 | x :: a, y :: b, z :: c, h, k => by
  simp only [ltW] at h k ⊢
  rcases h with h | ⟨h1, h2⟩
  ·rcases k with k | ⟨k1, _⟩
   ·exact .inl (by omega)
   ·exact .inl (by omega)
  ·rcases k with k | ⟨k1, k2⟩
   ·exact .inl (by omega)
   ·exact .inr ⟨by omega, sg h2 k2⟩
theorem xq : ∀ {a b : List Int}, a.length = b.length → ¬ ltW a b → ¬ ltW b a → a = b
 | [], [], _, _, _ => rfl
 | x :: a, y :: b, hl, h, k => by
  simp only [ltW, not_or, not_and] at h k
  have hxy : x = y := by omega
  subst hxy
  rw [xq (by simpa using hl) (h.2 rfl) (k.2 rfl)]
/-! ### What is next to something -/
end Go.AB
namespace Go.AB
open Go Go.RowKit
open Go.AB.Enc (cells)
open Go.PB (ay aj PlaceD bh bj bi)
theorem uhw {α : Type} {q : α → Bool} {l : List α} {k : Nat} {x : α} (hx : l[k]? = some x) (h : ∀ y ∈ l.take k, q y = false) (hq : q x = true) : l.findIdx q = k := by
 obtain ⟨h1, h2⟩ := List.getElem?_eq_some_iff.1 hx
 rw [List.findIdx_eq h1]
 exact ⟨by rw [h2]; exact hq, fun j hj => h _ (List.mem_of_getElem? (i := j) (by rw [List.getElem?_take_of_lt hj, List.getElem?_eq_getElem (by omega)]))⟩
end Go.AB
namespace Go.Proofs.YtgffhbbcpgdjjaaDoor
set_option maxRecDepth 10000
open Go.RowKit Go.AB
open Go.AB.Enc (cells)
open Go.PB (ay aj PlaceD bh bj bi)
/-! ### What is beside something -/
end Go.Proofs.YtgffhbbcpgdjjaaDoor
namespace Go.AB
open Go Go.RowKit
open Go.AB.Enc (cells)
section
variable {P : Program} {o : Oper} {st : St} {K : St → Prop}
/-- Whether a slice is nil: it is not, if something is in it. -/
theorem uh8 {t t' e : TypeId} [Elt P t e] {x : Operand} {rows : List (List C)} {tok : Tok} (ho : o.op = .binOp .eql t x (.const (.slice none 0 0)) t') (hx : evC st x = .list rows tok) (h : ∀ b : Bool, (rows ≠ [] → b = false) → K (st.put o.dst (.v (.bool b)))) : EStep P o st K :=
 jj fun E w a hsim => by
  have hr := hx ▸ hsim.ev x
  obtain ⟨ad, cap, _, _, hv, h1, _, _, _, _, _, h7, _⟩ := R.list_inv hr
  have q1 := Elt.spec (P := P) (t := t) (e := e)
  refine ⟨.bool ad.isNone, w, E, st.G, st.nx, .v (.bool ad.isNone), ?_, Ev.refl E w, .v rfl, hsim.g, h _ fun hne => ?_⟩
  ·have hq := run_equal_slice_nil (P := P) w t e ad rows.length cap q1
   have he2 : a.eval (.const (.slice none 0 0)) = .slice none 0 0 := rfl
   simp [execOp, ho, hv, he2, eqGuard, binOp, hq]
  ·obtain ⟨b, off, rfl, _⟩ := h7.resolve_left hne
   rfl
end
section
variable {ρ : Option Nat} {P : Program} {st : St} {Q : Exit → St → Prop}
end
end Go.AB
namespace Go.Proofs.YtgffhbbcpgdjjaaDoor
open Go.Shelf
def srt_Place_ren : Go.Shelf.Ren := ⟨fun | 6 => 92 | 15 => 108 | 14 => 107 | 28 => 120 | 29 => 121 | 20 => 112 | 21 => 113 | 22 => 114 | 23 => 115 | 24 => 116 | 25 => 117 | 26 => 118 | 27 => 119 | 46 => 122 | 47 => 123 | 48 => 124 | 49 => 125 | 50 => 126 | 57 => 127 | n => n, fun | 22 => 36 | 24 => 54 | 25 => 130 | 3 => 3 | 39 => 161 | 0 => 0 | 53 => 174 | 55 => 176 | 4 => 4 | 46 => 167 | 45 => 166 | 50 => 171 | 5 => 5 | 9 => 9 | 66 => 177 | 70 => 181 | 76 => 183 | 77 => 34 | n => n, fun | n => n⟩
theorem pz : Go.Proofs.SlLaysF0.n6 Tryd.prog srt_Place_ren := {
 mixed := by kernel_rfl
 f6 := ⟨Tryd.f92.name, by decide, Tryd.func92.trans (congrArg some (by kernel_rfl))⟩
 f14 := ⟨Tryd.f107.name, by decide, Tryd.func107.trans (congrArg some (by kernel_rfl))⟩
 f15 := Tryd.func108.trans (congrArg some (by kernel_rfl))
 f20 := ⟨Tryd.f112.name, by decide, Tryd.func112.trans (congrArg some (by kernel_rfl))⟩
 f21 := ⟨Tryd.f113.name, by decide, Tryd.func113.trans (congrArg some (by kernel_rfl))⟩
 f22 := ⟨Tryd.f114.name, by decide, Tryd.func114.trans (congrArg some (by kernel_rfl))⟩
 f23 := ⟨Tryd.f115.name, by decide, Tryd.func115.trans (congrArg some (by kernel_rfl))⟩
 f24 := ⟨Tryd.f116.name, by decide, Tryd.func116.trans (congrArg some (by kernel_rfl))⟩
 f25 := ⟨Tryd.f117.name, by decide, Tryd.func117.trans (congrArg some (by kernel_rfl))⟩
 f26 := ⟨Tryd.f118.name, by decide, Tryd.func118.trans (congrArg some (by kernel_rfl))⟩
 f27 := ⟨Tryd.f119.name, by decide, Tryd.func119.trans (congrArg some (by kernel_rfl))⟩
 f28 := Tryd.func120.trans (congrArg some (by kernel_rfl))
 f29 := Tryd.func121.trans (congrArg some (by kernel_rfl))
 f46 := ⟨Tryd.f122.name, by decide, Tryd.func122.trans (congrArg some (by kernel_rfl))⟩
 f47 := Tryd.func123.trans (congrArg some (by kernel_rfl))
 f48 := Tryd.func124.trans (congrArg some (by kernel_rfl))
 f49 := ⟨Tryd.f125.name, by decide, Tryd.func125.trans (congrArg some (by kernel_rfl))⟩
 f50 := ⟨Tryd.f126.name, by decide, Tryd.func126.trans (congrArg some (by kernel_rfl))⟩
 f57 := ⟨Tryd.f127.name, by decide, Tryd.func127.trans (congrArg some (by kernel_rfl))⟩
 t0 := Tryd.underlying0
 a0 := Tryd.isAgg0
 z0 := Tryd.sizeOf0
 v0 := Tryd.zeroValue0
 t3 := Tryd.underlying3
 a3 := Tryd.isAgg3
 z3 := Tryd.sizeOf3
 v3 := Tryd.zeroValue3
 t4 := Tryd.underlying4
 a4 := Tryd.isAgg4
 z4 := Tryd.sizeOf4
 v4 := Tryd.zeroValue4
 t5 := Tryd.underlying5
 a5 := Tryd.isAgg5
 z5 := Tryd.sizeOf5
 v5 := Tryd.zeroValue5
 t9 := Tryd.underlying9
 a9 := Tryd.isAgg9
 z9 := Tryd.sizeOf9
 v9 := Tryd.zeroValue9
 t22 := Tryd.underlying36
 a22 := Tryd.isAgg36
 z22 := Tryd.sizeOf36
 v22 := Tryd.zeroValue36
 t25 := Tryd.underlying130
 a25 := Tryd.isAgg130
 z25 := Tryd.sizeOf130
 v25 := Tryd.zeroValue130
 t39 := Tryd.underlying161
 a39 := Tryd.isAgg161
 z39 := Tryd.sizeOf161
 v39 := Tryd.zeroValue161
 t45 := Tryd.underlying166
 a45 := Tryd.isAgg166
 z45 := Tryd.sizeOf166
 v45 := Tryd.zeroValue166
 t46 := Tryd.underlying167
 a46 := Tryd.isAgg167
 z46 := Tryd.sizeOf167
 v46 := Tryd.zeroValue167
 t50 := Tryd.underlying171
 a50 := Tryd.isAgg171
 z50 := Tryd.sizeOf171
 v50 := Tryd.zeroValue171
 t53 := Tryd.underlying174
 a53 := Tryd.isAgg174
 z53 := Tryd.sizeOf174
 v53 := Tryd.zeroValue174
 t55 := Tryd.underlying176
 a55 := Tryd.isAgg176
 z55 := Tryd.sizeOf176
 v55 := Tryd.zeroValue176
 t66 := Tryd.underlying177
 a66 := Tryd.isAgg177
 z66 := Tryd.sizeOf177
 v66 := Tryd.zeroValue177
 t70 := Tryd.underlying181
 a70 := Tryd.isAgg181
 z70 := Tryd.sizeOf181
 v70 := Tryd.zeroValue181
 t76 := Tryd.underlying183
 a76 := Tryd.isAgg183
 z76 := Tryd.sizeOf183
 v76 := Tryd.zeroValue183
 t77 := Tryd.underlying34
 a77 := Tryd.isAgg34
 z77 := Tryd.sizeOf34
 v77 := Tryd.zeroValue34 }
end Go.Proofs.YtgffhbbcpgdjjaaDoor
namespace Go.AB
open Go Go.RowKit
open Go.AB.Enc (cells)
open Go.PB (ay aj PlaceD bh bj bi)
theorem ubh {α : Type} [DecidableEq α] : ∀ {l m : List α}, l.Nodup → (∀ x ∈ l, x ∈ m) → l.length ≤ m.length
 | [], _, _, _ => Nat.zero_le _
 | x :: l, m, hn, hs => by
  rw [List.nodup_cons] at hn
  have h1 := hs x (List.mem_cons_self ..)
  have h2 := ubh (l := l) (m := m.erase x) hn.2 fun y hy => (List.mem_erase_of_ne fun (e : y = x) => hn.1 (e ▸ hy)).2 (hs y (List.mem_cons_of_mem _ hy))
  rw [List.length_erase_of_mem h1] at h2
  have := List.length_pos_of_mem h1
  simp only [List.length_cons]
  omega
end Go.AB
namespace Go.Proofs.YtgffhbbcpgdjjaaDoor
set_option maxRecDepth 10000
open Go.RowKit Go.AB
open Go.AB.Enc (cells)
open Go.PB (ay aj PlaceD bh bj bi)
end Go.Proofs.YtgffhbbcpgdjjaaDoor
namespace Go.AB
open Go Go.RowKit
open Go.AB.Enc (cells)
open Go.PB (ay aj PlaceD bh bj bi)
end Go.AB
namespace Go.Proofs.YtgffhbbcpgdjjaaDoor
set_option maxRecDepth 10000
open Go.RowKit Go.AB
open Go.AB.Enc (cells)
open Go.PB (ay aj PlaceD bh bj bi)
end Go.Proofs.YtgffhbbcpgdjjaaDoor
namespace Go.AB
open Go Go.RowKit
open Go.AB.Enc (cells)
open Go.PB (ay aj PlaceD bh bj bi)
theorem y9 (t : aj) (f : L2 → Option L2) : (mj t f).Pairwise fun a b => ltW (da a) (da b) := by
 unfold mj n9
 rw [List.pairwise_flatten]
 constructor
 ·intro l hl
  obtain ⟨p, _, rfl⟩ := List.mem_map.1 hl
  unfold mq
  cases (f p).isSome
  ·exact List.Pairwise.nil
  rw [cond_true]
  unfold si
  rw [List.pairwise_map]
  refine List.Pairwise.imp (fun {a b} h => ?_) List.pairwise_lt_range
  simp only [da, ltW]
  refine .inr ⟨trivial, .inr ⟨trivial, .inl ?_⟩⟩
  omega
 rw [List.pairwise_map]
 refine List.Pairwise.imp (fun {p q} h => ?_) (ug6 t)
 intro a ha b hb
 unfold mq at ha hb
 cases hp : (f p).isSome with
 | false => rw [hp] at ha; simp at ha
 | true =>
  cases hq : (f q).isSome with
  | false => rw [hq] at hb; simp at hb
  | true =>
   rw [hp, cond_true] at ha
   rw [hq, cond_true] at hb
   obtain ⟨i, _, rfl⟩ := List.mem_map.1 ha
   obtain ⟨j, _, rfl⟩ := List.mem_map.1 hb
   simp only [da, ltW]
   rcases h with h | ⟨h1, h2⟩
   ·exact .inl h
   exact .inr ⟨h1, .inl h2⟩
end Go.AB
namespace Go.Proofs.YtgffhbbcpgdjjaaDoor
set_option maxRecDepth 10000
open Go.RowKit Go.AB
open Go.AB.Enc (cells)
open Go.PB (ay aj PlaceD bh bj bi)
end Go.Proofs.YtgffhbbcpgdjjaaDoor
namespace Go.AB
open Go Go.RowKit
open Go.PB (ay aj PlaceD bh bj bi)
theorem udu (t : aj) (f : L2 → Option L2) : (mj t f).Nodup :=
 (y9 t f).imp fun {a b} h e => by subst e; exact po _ h
end Go.AB
namespace Go.AB
open Go Go.RowKit
open Go.AB.Enc (cells)
open Go.PB (ay aj PlaceD bh bj bi)
theorem vy (t : aj) : (iy t).map (·.1) = mj t fun _ => some (1, 1) := by
 have key : ∀ (k n : Nat) (c : ay) (l : List ByteArray), t[k]? = some c → c.lines[n]? = some l → mq t (fun _ => some (1, 1)) ((k : Int), (n : Int)) = (jr k n l).map (·.1) := fun k n c l hc hl => by
  unfold mq
  rw [we hc hl]
  simp only [Option.isSome_some, cond_true, Option.getD_some]
  unfold si jr
  apply List.ext_getElem?
  intro i
  rw [List.getElem?_map, List.getElem?_map, List.getElem?_mapIdx]
  by_cases hi : i < l.length
  ·rw [List.getElem?_range hi, List.getElem?_eq_getElem hi]; rfl
  rw [List.getElem?_eq_none (by simp; omega), List.getElem?_eq_none (by omega)]; rfl
 unfold mj n9 nj iy lp
 rw [List.map_flatten, pn, List.map_flatten, pn, List.flatten_flatten]
 congr 1
 rw [pn]
 apply List.ext_getElem?
 intro k
 rw [List.getElem?_mapIdx, List.getElem?_mapIdx]
 cases hc : t[k]? with
 | none => rfl
 | some c =>
  simp only [Option.map_some]
  congr 1
  rw [List.map_flatten, pn, pn]
  congr 1
  apply List.ext_getElem?
  intro n
  rw [List.getElem?_mapIdx, List.getElem?_mapIdx]
  cases hl : c.lines[n]? with
  | none => rfl
  | some l => simp only [Option.map_some]; rw [key k n c l hc hl]
def isP (p : PlaceD) (x : PW) : Bool := decide (x.1 = p)
/-- so many places are ahead of a place -/
def qh (t : aj) (p : PlaceD) : Nat := (iy t).findIdx (isP p)
theorem uja (t : aj) : ((iy t).map (·.1)).Nodup := by rw [vy]; exact udu _ _
theorem allP_mem {t : aj} {p : PlaceD} : p ∈ (iy t).map (·.1) ↔ ey t p = true := by
 rw [vy, ug0]; simp
theorem xf {t : aj} {p : PlaceD} {k : Nat} {x : PW} (hx : (iy t)[k]? = some x) (hp : x.1 = p) : qh t p = k := by
 refine uhw hx (fun y hy => ?_) (by simp [isP, hp])
 obtain ⟨j, hj⟩ := List.getElem?_of_mem hy
 rw [List.getElem?_take] at hj
 split at hj
 ·rename_i hjk
  refine decide_eq_false fun e => ?_
  exact xg hj hx hjk (f := fun z : PW => z.1) (e.trans hp.symm) (uja t)
 cases hj
theorem ul {t : aj} {p : PlaceD} (hp : ey t p = true) : (mj t fun _ => some (1, 1))[qh t p]? = some p := by
 obtain ⟨x, hx, h⟩ := List.mem_map.1 (allP_mem.2 hp)
 obtain ⟨k, hk⟩ := List.getElem?_of_mem hx
 rw [xf hk h, ← vy, List.getElem?_map, hk]
 simp [h]
theorem ugo {t : aj} {p q : PlaceD} (hp : ey t p = true) (hq : ey t q = true) : qh t p < qh t q ↔ ltW (da p) (da q) := by
 obtain ⟨a1, a2⟩ := List.getElem?_eq_some_iff.1 (ul hp)
 obtain ⟨b1, b2⟩ := List.getElem?_eq_some_iff.1 (ul hq)
 have hs := List.pairwise_iff_getElem.1 (y9 t fun _ => some (1, 1))
 constructor
 ·intro h
  have := hs _ _ a1 b1 h
  rwa [a2, b2] at this
 intro h
 rcases Nat.lt_trichotomy (qh t p) (qh t q) with h1 | h1 | h1
 ·exact h1
 ·have : p = q := by
   have e1 := ul hp
   rw [h1, ul hq] at e1
   exact (Option.some.inj e1).symm
  subst this
  exact absurd h (po _)
 have := hs _ _ b1 a1 h1
 rw [a2, b2] at this
 exact absurd (sg h this) (po _)
theorem uda {t : aj} (ht : dl t = true) : (iy t).length ≤ 600 := by
 have h1 : ((iy t).map (·.1)).length = (mj t fun _ => some (1, 1)).length := by rw [vy]
 have h2 := udw ht (fun _ => some (1, 1)) (nj t)
 have h3 := ug7 ht
 unfold mj at h1
 rw [List.length_map] at h1
 omega
end Go.AB
namespace Go.Proofs.YtgffhbbcpgdjjaaDoor
set_option maxRecDepth 10000
open Go.RowKit Go.AB
open Go.AB.Enc (cells)
open Go.PB (ay aj PlaceD bh bj bi)
end Go.Proofs.YtgffhbbcpgdjjaaDoor
namespace Go.AB
open Go Go.RowKit
open Go.AB.Enc (cells)
open Go.PB (ay aj PlaceD bh bj bi)
/-! ### The order of words -/
/-! ### What the functions give -/
def ro (t : aj) (p : PlaceD) : ByteArray := ((gp t (p.ch, p.ln)).getD [])[p.wd.toNat]?.getD ByteArray.empty
theorem ui8 {t : aj} {x : PW} (hx : x ∈ iy t) : ro t x.1 = x.2 := by
 unfold iy at hx
 obtain ⟨l, hl, h1⟩ := List.mem_flatten.1 hx
 obtain ⟨k, hk, rfl⟩ := List.mem_mapIdx.1 hl
 unfold lp at h1
 obtain ⟨l2, hl2, h2⟩ := List.mem_flatten.1 h1
 obtain ⟨n, hn, rfl⟩ := List.mem_mapIdx.1 hl2
 unfold jr at h2
 obtain ⟨w, hw, rfl⟩ := List.mem_mapIdx.1 h2
 unfold ro
 dsimp only
 rw [we (List.getElem?_eq_getElem hk) (List.getElem?_eq_getElem hn)]
 simp [hw]
end Go.AB
namespace Go.AB
open Go Go.RowKit
open Go.AB.Enc (cells)
open Go.PB (ay aj PlaceD bh bj bi)
def dh (t : aj) : List PlaceD := (iy t).map (·.1)
def ec (t : aj) (k : Nat) (ls : List (List ByteArray)) (n : Nat) : List PlaceD := dh (t.take k) ++ (lp k (ls.take n)).map (·.1)
def lr (t : aj) (k : Nat) (ls : List (List ByteArray)) (n : Nat) (l : List ByteArray) (w : Nat) : List PlaceD := ec t k ls n ++ (jr k n (l.take w)).map (·.1)
theorem vw (t : aj) (k : Nat) (ls : List (List ByteArray)) : dh (t.take k) = ec t k ls 0 := by simp [ec, lp]
theorem vu (t : aj) (k : Nat) (ls : List (List ByteArray)) (n : Nat) (l : List ByteArray) : ec t k ls n = lr t k ls n l 0 := by simp [lr, jr]
theorem vx {t : aj} {k n : Nat} {c : ay} (hk : t[k]? = some c) (hn : c.lines.length ≤ n) : ec t k c.lines n = dh (t.take (k + 1)) := by
 unfold ec dh
 rw [List.take_of_length_le hn, uc9 hk, List.map_append]
theorem ui7 {t : aj} {k n w : Nat} {ls : List (List ByteArray)} {l : List ByteArray} (hn : ls[n]? = some l) (hw : l.length ≤ w) : lr t k ls n l w = ec t k ls (n + 1) := by
 unfold lr ec
 rw [List.take_of_length_le hw, yk k hn, List.map_append, List.append_assoc]
theorem ui6 {t : aj} {k n w : Nat} {ls : List (List ByteArray)} {l : List ByteArray} (hw : w < l.length) : lr t k ls n l w ++ [(⟨k, n, w⟩ : PlaceD)] = lr t k ls n l (w + 1) := by
 unfold lr
 rw [ug9 k n (List.getElem?_eq_getElem hw), List.map_append, List.append_assoc]; rfl
theorem km {t : aj} (ht : dl t = true) : (dh t).length ≤ 600 := by rw [dh, List.length_map]; exact uda ht
theorem vv {t : aj} (ht : dl t = true) {k n : Nat} {c : ay} {l : List ByteArray} (hk : t[k]? = some c) (hn : c.lines[n]? = some l) (w : Nat) : (lr t k c.lines n l w).length ≤ 600 := by
 have h1 := (ud1 hk hn w).length_le
 have h2 := uda ht
 simp only [List.length_append] at h1
 simp only [lr, ec, dh, List.length_append, List.length_map]
 omega
theorem w5 {t : aj} {p : PlaceD} (hp : ey t p = true) : ∃ (k n w : Nat) (c : ay) (l : List ByteArray), p = ⟨k, n, w⟩ ∧ t[k]? = some c ∧ c.lines[n]? = some l ∧ l[w]? = some (ro t p) := by
 obtain ⟨l, hw, h1, h2⟩ := placeB_true.1 hp
 obtain ⟨k, n, c, hkn, hk, hn⟩ := rn hw
 refine ⟨k, n, p.wd.toNat, c, l, ?_, hk, hn, ?_⟩
 ·have e1 : p.ch = (k : Int) := congrArg Prod.fst hkn
  have e2 : p.ln = (n : Int) := congrArg Prod.snd hkn
  obtain ⟨a, b, d⟩ := p
  dsimp only at e1 e2 h1 ⊢
  subst e1; subst e2
  rw [Int.toNat_of_nonneg h1]
 unfold ro
 rw [hw, Option.getD_some, List.getElem?_eq_getElem (by omega)]
 rfl
theorem udb {t : aj} {k : Nat} {x : PW} (hx : (iy t)[k]? = some x) : ey t x.1 = true ∧ ro t x.1 = x.2 := by
 have hm := List.mem_of_getElem? hx
 exact ⟨allP_mem.1 (List.mem_map.2 ⟨x, hm, rfl⟩), ui8 hm⟩
theorem xo {α : Type} {l : List α} {k : Nat} {x : α} {p : α → Prop} (hx : l[k]? = some x) (hp : p x) (h : ∀ y ∈ l.take k, p y) : ∀ y ∈ l.take (k + 1), p y := fun y hy => by
 rw [List.take_add_one, hx] at hy
 simp only [Option.toList_some, List.mem_append, List.mem_singleton] at hy
 rcases hy with hy | rfl
 ·exact h y hy
 exact hp
/-! ### A word in its place -/
end Go.AB
namespace Go.Proofs.YtgffhbbcpgdjjaaDoor
set_option maxRecDepth 10000
open Go.RowKit Go.AB
open Go.AB.Enc (cells)
open Go.PB (ay aj PlaceD bh bj bi)
theorem uaf (t : aj) (ht : dl t = true) : Pure Tryd.prog 63 [eu t] (lst (dh t)) := by
 refine dm Tryd.func63 rfl (fun m => (ar _ _)) fun G nx => ?_
 simp only [Tryd.ntmps63, List.length_cons, List.length_nil, Nat.reduceAdd, Nat.reduceSub]
 refine ct fun hlt => ?_
 dsimp only at hlt
 obtain ⟨hl1, hl2, hl3⟩ := jo ht
 refine yS fun _ K1 => ?_
 refine yR ?_
 try dsimp only [St.put]
 refine yB rfl rfl rfl ?_
 refine yA rfl rfl ?_
 refine yN ?_
 dsimp only [St.put]
 refine K1 _ ?_
 refine yS fun _ K2 => ?_
 refine yR ?_
 refine yA rfl rfl ?_
 refine yN ?_
 dsimp only [St.put]
 refine K2 _ ?_
 refine s7 3 54 3 rfl (by decide) ?_
 dsimp only [List.set_cons_zero, List.set_cons_succ]
 refine yS fun _ K3 => ?_
 refine yS fun _ K4 => ?_
 refine yR ?_
 refine yA rfl rfl ?_
 refine yN ?_
 dsimp only [St.put]
 refine K4 _ ?_
 refine az ?_
 refine cj 7 ?_
 refine zQ ?_
 refine db (ai G nx (.tip 0 54 3)) zX ?_
 dsimp only
 refine c7 (X := Nat) (fun k => k ≤ t.length) (fun k => t.length - k) (fun k => [(3, .list ((dh (t.take k)).map cells) (.tip nx)), (4, .v (.int .i64 (k : Int))), (5, .any), (6, .any)]) (fun k G' => (ai G nx (.tip ((dh (t.take k))).length 54 3))) 0 rfl ?_ ?_ ?_ ?_ ?_ ?_
 ·exact Nat.zero_le _
 ·exact zF
 ·exact zX
 ·rintro k hI
  exact zL
 ·rintro k hI
  exact zH
 rintro k hI
 dsimp only at hI ⊢
 refine yS fun _ K5 => ?_
 refine yS fun _ K6 => ?_
 refine yR ?_
 refine yM rfl rfl ?_
 refine yF rfl rfl rfl rfl ?_
 refine yL rfl rfl rfl ?_
 refine aa rfl (bg rfl rfl (List.length_map _)) ?_
 refine aa rfl (cn rfl rfl rfl) ?_
 refine yN ?_
 dsimp only [St.put]
 refine K6 _ ?_
 refine ak rfl (fun hc => ?_) (fun hc => ?_)
 ·replace hc := of_decide_eq_true hc
  obtain ⟨c, hk⟩ : ∃ x, t[k]? = some x := cx (by omega)
  have hcl := hl3 c (ez hk)
  refine av ?_
  refine K5 _ ?_
  refine yS fun _ K7 => ?_
  refine az ?_
  refine yS fun _ K8 => ?_
  refine yR ?_
  refine yA rfl rfl ?_
  refine yN ?_
  dsimp only [St.put]
  rw [vw t k c.lines]
  refine K8 _ ?_
  refine az ?_
  refine cj 7 ?_
  refine zQ ?_
  refine db ((ai G nx (.tip ((ec t k c.lines 0)).length 54 3))) zX ?_
  dsimp only
  refine c7 (X := Nat) (fun n => n ≤ c.lines.length) (fun n => c.lines.length - n) (fun n => [(3, .list ((ec t k c.lines n).map cells) (.tip nx)), (5, .v (.int .i64 (n : Int))), (6, .any)]) (fun n G' => (ai G nx (.tip ((ec t k c.lines n)).length 54 3))) 0 rfl ?_ ?_ ?_ ?_ ?_ ?_
  ·exact Nat.zero_le _
  ·exact zF
  ·exact zX
  ·rintro n hI
   exact zL
  ·rintro n hI
   exact zH
  rintro n hJ
  dsimp only at hJ ⊢
  refine yS fun _ K9 => ?_
  refine yS fun _ K10 => ?_
  refine yR ?_
  refine yM rfl rfl ?_
  refine yF rfl rfl rfl rfl ?_
  refine yL rfl rfl rfl ?_
  refine yM rfl rfl ?_
  refine aa rfl (bl rfl rfl rfl rfl (bn (by assumption)) (Enc.len _)) ?_
  refine yF rfl rfl rfl rfl ?_
  refine yL rfl rfl rfl ?_
  refine aa rfl (bg rfl rfl (List.length_map _)) ?_
  refine aa rfl (cn rfl rfl rfl) ?_
  refine yN ?_
  dsimp only [St.put]
  refine K10 _ ?_
  refine ak rfl (fun hc => ?_) (fun hc => ?_)
  ·replace hc := of_decide_eq_true hc
   obtain ⟨l, hn⟩ : ∃ x, c.lines[n]? = some x := cx (by omega)
   have hll := hcl.2.2 l (ez hn)
   refine av ?_
   refine K9 _ ?_
   refine yS fun _ K11 => ?_
   refine az ?_
   refine yS fun _ K12 => ?_
   refine yR ?_
   refine yA rfl rfl ?_
   refine yN ?_
   dsimp only [St.put]
   rw [vu t k c.lines n l]
   refine K12 _ ?_
   refine az ?_
   refine cj 7 ?_
   refine zQ ?_
   refine db ((ai G nx (.tip ((lr t k c.lines n l 0)).length 54 3))) zX ?_
   dsimp only
   refine c7 (X := Nat) (fun w => w ≤ l.length) (fun w => l.length - w) (fun w => [(3, .list ((lr t k c.lines n l w).map cells) (.tip nx)), (6, .v (.int .i64 (w : Int)))]) (fun w G' => (ai G nx (.tip ((lr t k c.lines n l w)).length 54 3))) 0 rfl ?_ ?_ ?_ ?_ ?_ ?_
   ·exact Nat.zero_le _
   ·exact zF
   ·exact zX
   ·rintro w hI
    exact zL
   ·rintro w hI
    exact zH
   rintro w hW
   dsimp only at hW ⊢
   refine yS fun _ K13 => ?_
   refine yS fun _ K14 => ?_
   refine yR ?_
   refine yM rfl rfl ?_
   refine yF rfl rfl rfl rfl ?_
   refine yL rfl rfl rfl ?_
   refine yM rfl rfl ?_
   refine aa rfl (bl rfl rfl rfl rfl (bn (by assumption)) (Enc.len _)) ?_
   refine yF rfl rfl rfl rfl ?_
   refine yL rfl rfl rfl ?_
   refine yM rfl rfl ?_
   refine aa rfl (bl rfl rfl rfl rfl (bn (by assumption)) (Enc.len _)) ?_
   refine yL rfl rfl rfl ?_
   refine aa rfl (bg rfl rfl (List.length_map _)) ?_
   refine aa rfl (cn rfl rfl rfl) ?_
   refine yN ?_
   dsimp only [St.put]
   refine K14 _ ?_
   refine ak rfl (fun hc => ?_) (fun hc => ?_)
   ·replace hc := of_decide_eq_true hc
    have hlen := vv ht hk hn w
    refine av ?_
    refine K13 _ ?_
    refine yS fun _ K15 => ?_
    refine az ?_
    refine yR ?_
    refine yM rfl rfl ?_
    refine yM rfl rfl ?_
    refine yM rfl rfl ?_
    refine yM rfl rfl ?_
    refine aa rfl (l5 rfl rfl) ?_
    try dsimp only [St.put]
    refine af rfl (ef rfl rfl rfl (by decide) (by decide) zR (by decide) ?_)
    try dsimp only [St.put]
    refine af rfl (ma ([(⟨k, n, w⟩ : PlaceD)]) rfl rfl zG zE rfl rfl zA ?_ zA)
    refine yA rfl rfl ?_
    refine yN ?_
    dsimp only [St.put]
    refine K15 _ ?_
    refine yR ?_
    refine yM rfl rfl ?_
    refine aa rfl (br rfl rfl rfl (by omega)) ?_
    refine yA rfl rfl ?_
    refine yN ?_
    dsimp only [St.put]
    rw [ui6 (w := w) (by omega)]
    exact ⟨w + 1, by omega, by omega, ⟨⟨rfl, rfl⟩, zF, zB, zN, zX⟩⟩
   try replace hc := of_decide_eq_false hc
   refine cr ?_
   refine K11 _ ?_
   refine yR ?_
   refine yM rfl rfl ?_
   refine aa rfl (br rfl rfl rfl (by omega)) ?_
   refine yA rfl rfl ?_
   refine yN ?_
   dsimp only [St.put]
   rw [ui7 (k := k) (w := w) hn (by omega)]
   exact ⟨n + 1, by omega, by omega, ⟨⟨rfl, rfl⟩, zF, zB, zN, zX⟩⟩
  try replace hc := of_decide_eq_false hc
  refine cr ?_
  refine K7 _ ?_
  refine yR ?_
  refine yM rfl rfl ?_
  refine aa rfl (br rfl rfl rfl (by omega)) ?_
  refine yA rfl rfl ?_
  refine yN ?_
  dsimp only [St.put]
  rw [vx (n := n) hk (by omega)]
  exact ⟨k + 1, by omega, by omega, ⟨⟨rfl, rfl⟩, zF, zB, zN, zX⟩⟩
 try replace hc := of_decide_eq_false hc
 refine cr ?_
 refine K3 _ ?_
 refine yS fun _ K16 => ?_
 refine yR ?_
 refine yM rfl rfl ?_
 refine yA rfl rfl ?_
 refine yN ?_
 dsimp only [St.put]
 rw [f8 (show t.length ≤ k by omega)]
 refine K16 _ ?_
 refine ax ?_
 refine vg rfl (fl (by constructor)) zN zS ?_
 exact zW
end Go.Proofs.YtgffhbbcpgdjjaaDoor
namespace Go.AB
/-- pages, each with a first and a second reader, or one of them, or none -/
structure Net where
 nF : Nat
 nr : Nat
 np : Nat
 fr : Nat → Option Nat
 sc : Nat → Option Nat
def ob (S : Nat → Bool) : Option Nat → Bool
 | none => false
 | some i => S i
section
variable {N : Net} {R C : Nat → Int}
end
end Go.AB
namespace Go.PB
structure bx where
 id : Int
 miss : Int
 deriving DecidableEq
structure aq where
 fr : Int
 to : Int
 fst : Int
 snd : Int
 found : List PlaceD
 well : List PlaceD
 deriving DecidableEq
structure am where
 text : aj
 firsts : List bx
 seconds : List bx
 pages : List aq
 deriving DecidableEq
/-- proofs at work -/
structure cv where
 p : am
 words : List Int
 all : List (List PlaceD)
 both : List (List PlaceD)
structure co where
 lo : Int
 hi : Int
 deriving DecidableEq
end Go.PB
namespace Go.AB
open Go Go.RowKit
open Go.AB.Enc (cells)
open Go.PB (ay aj PlaceD bh bj bi bx aq am cv co)
instance : Enc bx := ⟨fun x => [.v (.int .i64 x.id), .v (.int .i64 x.miss)], 2, fun _ => rfl, fun m x c h => by
 simp only [List.mem_cons, List.not_mem_nil, or_false] at h; rcases h with rfl | rfl <;> exact .v, fun x c h => by
 simp only [List.mem_cons, List.not_mem_nil, or_false] at h; rcases h with rfl | rfl <;> rfl⟩
instance : Enc co := ⟨fun x => [.v (.int .i64 x.lo), .v (.int .i64 x.hi)], 2, fun _ => rfl, fun m x c h => by
 simp only [List.mem_cons, List.not_mem_nil, or_false] at h; rcases h with rfl | rfl <;> exact .v, fun x c h => by
 simp only [List.mem_cons, List.not_mem_nil, or_false] at h; rcases h with rfl | rfl <;> rfl⟩
instance : Enc aq := ⟨fun x => [.v (.int .i64 x.fr), .v (.int .i64 x.to), .v (.int .i64 x.fst), .v (.int .i64 x.snd), lst x.found, lst x.well], 6, fun _ => rfl, fun m x c h => by
 simp only [List.mem_cons, List.not_mem_nil, or_false] at h
 rcases h with rfl | rfl | rfl | rfl | rfl | rfl
 ·exact .v
 ·exact .v
 ·exact .v
 ·exact .v
 ·exact ar m _
 ·exact ar m _, fun x c h => by
 simp only [List.mem_cons, List.not_mem_nil, or_false] at h; rcases h with rfl | rfl | rfl | rfl | rfl | rfl <;> rfl⟩
instance : Enc am := ⟨fun x => [lst x.text, lst x.firsts, lst x.seconds, lst x.pages], 4, fun _ => rfl, fun m x c h => by
 simp only [List.mem_cons, List.not_mem_nil, or_false] at h
 rcases h with rfl | rfl | rfl | rfl
 ·exact ar m _
 ·exact ar m _
 ·exact ar m _
 ·exact ar m _, fun x c h => by
 simp only [List.mem_cons, List.not_mem_nil, or_false] at h; rcases h with rfl | rfl | rfl | rfl <;> rfl⟩
/-! ### Lines of a text -/
/-- the number of a chapter's first line -/
def fh (t : aj) (k : Nat) : Nat := ((t.take k).map fun c => c.lines.length).sum
theorem zl (t : aj) : fh t 0 = 0 := by simp [fh]
theorem rt {t : aj} {k : Nat} {c : ay} (h : t[k]? = some c) : fh t (k + 1) = fh t k + c.lines.length := by
 unfold fh
 rw [List.take_add_one, h]
 simp
def lg (t : aj) : Nat := fh t t.length
/-- the number of the line of a place -/
def nk (t : aj) (q : PlaceD) : Int := q.ln + (fh t q.ch.toNat : Int)
def el (t : aj) (x : aq) (q : PlaceD) : Bool := inB (nk t q) x.fr x.to
/-! ### Valid proofs -/
def mf (a b : PlaceD) : Bool := decide (gk (da a) (da b) < 0)
/-- a place of a list may stand where it does -/
def i7 (t : aj) (x : aq) (l : List PlaceD) (i : Nat) : Bool := match l[i]? with
 | none => true
 | some q => ey t q && el t x q && (decide (i = 0) || match l[i - 1]? with | none => true | some a => mf a q)
def ce (t : aj) (x : aq) (l : List PlaceD) (n : Nat) : Bool := (List.range n).all (i7 t x l)
theorem d7 (t : aj) (x : aq) (l : List PlaceD) (n : Nat) : ce t x l (n + 1) = (ce t x l n && i7 t x l n) := by
 unfold ce
 rw [List.range_succ, List.all_append]
 simp
def gr (t : aj) (x : aq) (r : Int) (l : List PlaceD) : Bool := (decide (0 ≤ r) || decide (l = [])) && ce t x l l.length
def ff (r : bx) : Bool := inB r.id 0 9999 && inB r.miss 0 90
def iq (p : am) : Bool := decide (p.firsts.length ≤ 3) && decide (p.seconds.length ≤ 3) && (p.firsts ++ p.seconds).all ff && decide ((p.firsts ++ p.seconds).map (·.id)).Nodup
def ka (p : am) (last : Int) (x : aq) : Bool := decide (last < x.fr) && decide (x.fr ≤ x.to) && decide (x.to < (lg p.text : Int)) && inB x.fst (-1) ((p.firsts.length : Int) - 1) && gr p.text x x.fst x.found && inB x.snd (-1) ((p.seconds.length : Int) - 1) && gr p.text x x.snd x.well
/-- the last line ahead of a page -/
def fg (l : List aq) : Nat → Int
 | 0 => -1
 | i + 1 => match l[i]? with | some x => x.to | none => -1
def r5 (p : am) (i : Nat) : Bool := match p.pages[i]? with
 | none => true
 | some x => ka p (fg p.pages i) x
def ou (p : am) (n : Nat) : Bool := (List.range n).all (r5 p)
theorem qa (p : am) (n : Nat) : ou p (n + 1) = (ou p n && r5 p n) := by
 unfold ou
 rw [List.range_succ, List.all_append]
 simp
def fw (p : am) : Bool := iq p && decide (p.pages.length ≤ 8) && ou p p.pages.length
def em (p : am) : Int := bif dl p.text then (bif fw p then 0 else 90) else 10
/-! ### What is found on a page -/
def ca (t : aj) (x : aq) : List PlaceD := (dh t).filter fun q => decide (q ∈ x.found) || decide (q ∈ x.well)
def bf (t : aj) (x : aq) : List PlaceD := (dh t).filter fun q => decide (q ∈ x.found) && decide (q ∈ x.well)
def dw (t : aj) (x : aq) : Nat := ((dh t).filter (el t x)).length
/-! ### Bounds of readers -/
def fp (b : Bool) (x : aq) : Int := bif b then x.snd else x.fst
def bu (b : Bool) (x : aq) : List PlaceD := bif b then x.well else x.found
def cz (p : am) (b : Bool) : List bx := bif b then p.seconds else p.firsts
def cp (l : List aq) (g : aq → Nat) : Nat := (l.map g).sum
theorem ml {l : List aq} {k : Nat} {x : aq} {g : aq → Nat} (h : l[k]? = some x) : cp (l.take (k + 1)) g = cp (l.take k) g + g x := by
 unfold cp
 rw [List.take_add_one, h]
 simp
def dn (b : Bool) (i : Int) (x : aq) : Nat := bif decide (fp b x = i) then (bu b x).length else 0
def dx (t : aj) (b : Bool) (i : Int) (x : aq) : Nat := bif decide (fp b x = i) then (ca t x).length else 0
def ku (p : am) (b : Bool) (i : Nat) : Int := match (cz p b)[i]? with | some r => r.miss | none => 0
def jz (p : am) (b : Bool) (i : Nat) : Int := 100 * (cp p.pages (dn b i) : Int) / (100 - ku p b i)
def sj (p : am) (b : Bool) (i : Nat) : Int := jz p b i - (cp p.pages (dx p.text b i) : Int)
/-! ### What may remain -/
end Go.AB
namespace Go.AB
open Go Go.RowKit
/-- what an operation waits for -/
def mb (o : Oper) : List Nat := (o.after.toList.filter fun e => Region.binds .any e).map (·.on)
def mp (l : List Bool) : Nat := (l.filter fun b => !b).length
theorem uj : ∀ {l : List Bool} {i : Nat}, l[i]? = some false → mp (l.set i true) + 1 = mp l
 | [], i, h => by simp at h
 | b :: l, 0, h => by
  simp only [List.getElem?_cons_zero, Option.some.injEq] at h
  subst h
  simp [mp]
 | b :: l, i + 1, h => by
  simp only [List.getElem?_cons_succ] at h
  have ih := uj h
  unfold mp at ih ⊢
  cases b
  ·simp only [List.set_cons_succ, List.filter_cons, Bool.not_false, if_true, List.length_cons]; omega
  ·simp only [List.set_cons_succ, List.filter_cons, Bool.not_true, Bool.false_eq_true, if_false]; omega
theorem ubf {l : List Bool} (h : mp l = 0) (i : Nat) : l[i]? ≠ some false := fun e => by
 have := uj e
 omega
theorem wz {ol : List Oper} {l : List Bool} {i : Nat} (h : i ∈ Region.ready .any ol.toArray l.toArray) (hl : l.length = ol.length) : ∃ o, ol[i]? = some o ∧ l[i]? = some false ∧ ∀ j ∈ mb o, l[j]? = some true := by
 unfold Region.ready at h
 simp only [List.mem_filter, List.mem_range, List.size_toArray, Bool.and_eq_true, Bool.not_eq_true'] at h
 obtain ⟨h1, h2, h3⟩ := h
 obtain ⟨o, ho⟩ : ∃ o, ol[i]? = some o := ⟨_, List.getElem?_eq_getElem h1⟩
 refine ⟨o, ho, ?_, fun j hj => ?_⟩
 ·have e := List.getElem?_eq_getElem (l := l) (i := i) (by omega)
  rw [Array.getD_eq_getD_getElem?, List.getElem?_toArray, e] at h2
  rw [e, ← h2]; rfl
 ·rw [List.getElem?_toArray, ho] at h3
  simp only [Option.map_some, Option.getD_some] at h3
  rw [← Array.all_toList, List.all_eq_true] at h3
  unfold mb at hj
  obtain ⟨e, he, rfl⟩ := List.mem_map.1 hj
  obtain ⟨he1, he2⟩ := List.mem_filter.1 he
  have := h3 e he1
  rw [he2, Bool.not_true, Bool.false_or, Array.getD_eq_getD_getElem?, List.getElem?_toArray] at this
  cases hb : l[e.on]? with
  | none => rw [hb] at this; cases this
  | some b => rw [hb] at this; rw [show b = true from this]
section
variable {P : Program} {ol : List Oper} {K : St → Prop} {late : Nat → Bool}
/-- one operation of what is left, by what holds behind it -/
def AOneI (P : Program) (ol : List Oper) (I : List Bool → St → Prop) (l : List Bool) (i : Nat) (st : St) : Prop :=
 ∃ o, ol[i]? = some o ∧ ((fk ol.toArray st o = some true ∧ EStep P o st (I (l.set i true))) ∨ (fk ol.toArray st o = some false ∧ I (l.set i true) (st.put o.dst (.tup []))))
/-- whether each operation waits only for earlier ones -/
def qo (ol : List Oper) : Bool := (List.range ol.length).all fun i => ((ol[i]?).map fun o => (mb o).all fun j => decide (j < i)).getD true
theorem wy {l : List Bool} (hf : qo ol = true) (hl : l.length = ol.length) (h : Region.ready .any ol.toArray l.toArray = []) : ∀ i, i < ol.length → l[i]? = some true := by
 intro i
 induction i using Nat.strongRecOn with
 | _ i ih =>
  intro hi
  obtain ⟨o, ho⟩ : ∃ o, ol[i]? = some o := ⟨_, List.getElem?_eq_getElem hi⟩
  have e := List.getElem?_eq_getElem (l := l) (i := i) (by omega)
  cases hb : l[i]'(by omega) with
  | true => rw [e, hb]
  | false =>
   exfalso
   have hm : i ∈ Region.ready .any ol.toArray l.toArray := by
    unfold Region.ready
    simp only [List.mem_filter, List.mem_range, List.size_toArray, Bool.and_eq_true, Bool.not_eq_true']
    refine ⟨hi, by rw [Array.getD_eq_getD_getElem?, List.getElem?_toArray, e, hb]; rfl, ?_⟩
    rw [List.getElem?_toArray, ho]
    simp only [Option.map_some, Option.getD_some]
    rw [← Array.all_toList, List.all_eq_true]
    intro e1 he1
    cases hq : Region.binds .any e1 with
    | false => rfl
    | true =>
     rw [Bool.not_true, Bool.false_or, Array.getD_eq_getD_getElem?, List.getElem?_toArray]
     have hj : e1.on ∈ mb o := List.mem_map.2 ⟨e1, List.mem_filter.2 ⟨he1, hq⟩, rfl⟩
     have h1 := List.all_eq_true.1 hf i (List.mem_range.2 hi)
     rw [ho] at h1
     simp only [Option.map_some, Option.getD_some, List.all_eq_true] at h1
     have hlt := of_decide_eq_true (h1 _ hj)
     rw [ih _ hlt (by omega)]; rfl
   rw [h] at hm
   cases hm
theorem y1 (I : List Bool → St → Prop) (hf : qo ol = true) (hl : ∀ l st, I l st → l.length = ol.length)
  (hs : ∀ l st i o, I l st → ol[i]? = some o → l[i]? = some false → (∀ j ∈ mb o, l[j]? = some true) → AOneI P ol I l i st)
  (he : ∀ l st, I l st → (∀ i, i < ol.length → l[i]? = some true) → K st) : ∀ (fuel : Nat) (l : List Bool) (st : St), I l st → mp l = fuel → mi P ol K late fuel l st
 | 0, l, st, hI, h0 => by
  have hr : Region.ready .any ol.toArray l.toArray = [] := by
   cases h : Region.ready .any ol.toArray l.toArray with
   | nil => rfl
   | cons i is =>
    obtain ⟨o, _, h2, _⟩ := wz (i := i) (by rw [h]; exact List.mem_cons_self ..) (hl l st hI)
    exact absurd h2 (ubf h0 i)
  exact ge (by rw [hr]; rfl) (he l st hI (wy hf (hl l st hI) hr))
 | fuel + 1, l, st, hI, h0 => by
  cases h : Region.ready .any ol.toArray l.toArray with
  | nil => exact ge (by rw [h]; rfl) (he l st hI (wy hf (hl l st hI) h))
  | cons i is =>
   refine dc (i :: is) (by rw [h]; exact beq_self_eq_true _) (by simp) ?_
   have hall : ∀ js : List Nat, (∀ j ∈ js, j ∈ Region.ready .any ol.toArray l.toArray) → rk P ol K late fuel l st js := by
    intro js
    induction js with
    | nil => intro _; trivial
    | cons j js ih =>
     intro hjs
     refine ⟨?_, ih fun k hk => hjs k (List.mem_cons_of_mem _ hk)⟩
     obtain ⟨o, ho, h2, h3⟩ := wz (hjs j (List.mem_cons_self ..)) (hl l st hI)
     have hn : mp (l.set j true) = fuel := by have := uj h2; omega
     obtain ⟨o', ho', hc⟩ := hs l st j o hI ho h2 h3
     refine ⟨o', ho', ?_⟩
     rcases hc with ⟨hg, hE⟩ | ⟨hg, hE⟩
     ·exact .inl ⟨hg, hE.mono fun st' h' => y1 I hf hl hs he fuel _ _ h' hn⟩
     ·exact .inr ⟨hg, y1 I hf hl hs he fuel _ _ hE hn⟩
   exact hall (i :: is) fun j hj => by rw [h]; exact hj
end
theorem uga {w : World} {B B' : Nat} {tt : TypeId} {sz len : Nat} {val : Value} {us us' : List Value} (h : w.ownsRow B tt sz val len us) (k : w.ownsRow B' tt sz val len us') : us = us' := by
 obtain ⟨l1, h1⟩ := h
 obtain ⟨l2, h2⟩ := k
 rcases h1 with ⟨e, h0⟩ | ⟨g, cap, cur, e, _, hh, _, _, _, ht⟩
 ·subst h0
  rw [Nat.zero_mul] at l1 l2
  rw [List.length_eq_zero_iff.1 l1, List.length_eq_zero_iff.1 l2]
 ·rcases h2 with ⟨e', _⟩ | ⟨g', cap', cur', e', _, hh', _, _, _, ht'⟩
  ·rw [e] at e'; cases e'
  ·rw [e] at e'
   cases e'
   rw [hh] at hh'
   cases hh'
   rw [← ht, ← ht']
/-- an own slice laid for good, as a cell of another one holds it -/
theorem uc4 {P : Program} {ρ : Option Nat} {Q : Exit → St → Prop} {st : St} {c : Code} {α : Type} [Enc α] (m off : Nat) {n ver wv wm len sz verm szm lenm : Nat} {tt ttm : TypeId} {cs ds : List C} (xs : List α) (hM : st.G m = some (.arr verm wm ttm szm lenm ds)) (h0 : ds[off]? = some (.own n ver len)) (hG : st.G n = some (.arr ver wv tt sz len cs)) (hnm : m ≠ n) (hsz : sz = Enc.n α) (hcs : cs = ci xs) (hlen : len = xs.length) (h : AW ρ P c Q { st with G := ai (lm st.G n) m (.arr verm wm ttm szm lenm (ds.set off (lst xs))) }) : AW ρ P c Q st := by
 intro E w a hs
 obtain ⟨E', hE, hg', hl⟩ := w7 hs.g xs hG hsz hcs hlen
 obtain ⟨val, us, hT, how, hone, hr, hL, hpos⟩ := hg'.obj m (.arr verm wm ttm szm lenm ds) (by rw [jk hnm]; exact hM)
 obtain ⟨val2, us2, hT2, how2, _, hr2, _, _⟩ := hs.g.obj m _ hM
 have hs2 := hs.evd hE hg'
 have hTT : val = val2 := by
  obtain ⟨ver1, wv1, val1, q1, q2, q3⟩ := hE.T m (hs.g.lt m _ hT2) _ _ _ hT
  rw [hT2] at q1
  simp only [Option.some.injEq, Prod.mk.injEq] at q1
  obtain ⟨rfl, rfl, rfl⟩ := q1
  exact (q3 rfl).1.symm
 subst hTT
 have e1 : us = us2 := uga how how2
 subst e1
 refine gz (fun _ _ _ hq => lh hE hq) (h E' w a ⟨hs.d.ev hE, hs.sz, hs2.t, ⟨hg'.nx, fun k o ho => ?_, hg'.lt, hg'.tb, hg'.ap, hg'.fresh, hg'.base⟩⟩)
 simp only [ai] at ho
 split at ho
 ·rename_i ek
  subst ek
  simp only [Option.some.injEq] at ho
  subst ho
  refine ⟨val, us, hT, how, fun d hd => ?_, ⟨by rw [hr.1]; simp, fun j d v hd hv => ?_⟩, hL, hpos⟩
  ·rcases List.mem_or_eq_of_mem_set hd with hd | rfl
   ·exact hone d hd
   ·rfl
  ·rw [List.getElem?_set] at hd
   split at hd
   ·rename_i ej
    subst ej
    split at hd
    ·simp only [Option.some.injEq] at hd
     subst hd
     exact hl v (hr2.2 off _ v h0 hv)
    ·cases hd
   ·exact hr.2 j d v hd hv
 ·exact hg'.obj k o ho
theorem uat {cs : List C} {i : Nat} {c c0 : C} (h : cs[i]? = some c0) : (putAt cs i [c]).set i c0 = cs := by
 have hl := (List.getElem?_eq_some_iff.1 h).1
 show (cs.set i c).set i c0 = cs
 rw [List.set_set]
 obtain rfl := Option.some.inj ((List.getElem?_eq_getElem hl).symm.trans h)
 exact List.set_getElem_self hl
end Go.AB
namespace Go.AB
open Go Go.RowKit
variable {ρ : Option Nat}
section
variable {P : Program} {ops : Array Oper} {Q : Exit → Act → World → Prop} {S : World → Prop} {late : Nat → Bool}
/-- Values alone: whatever has come up. -/
theorem udp {S2 : World → Prop} (fin : Act → World → Prop) (fuel : Nat) (hs : Region.noSelect ops = true) (hQ : ∀ (o : Option Tmp) (v : Value) c a w, Q (.panic c) (a.put o v) w → Q (.panic c) a w) :
  ∀ (π : List (Nat × Option Nat)) (listed : Array Bool) (a : Act) (w : World), Closed .any ops listed → me ops late (fun _ => true) π listed = true →
   (∀ a, fin a w → g9 P .any ops Q S late fuel (ky π listed) a w) → gf P ops (ib fin) S2 late (fun _ => false) (fun _ => true) π a w → g9 P .any ops Q S late (gh π + fuel) listed a w := by
 intro π
 induction π with
 | nil =>
  intro listed a w _ _ hf h
  have := hf a h
  simpa [gh, ky] using this
 | cons p rest ih =>
  obtain ⟨i, m⟩ := p
  intro listed a w hcl hc hf h
  cases m with
  | some j => simp [me] at hc
  | none =>
   simp only [me, Bool.and_eq_true] at hc
   obtain ⟨⟨⟨⟨hready, hfree⟩, hsome⟩, hlate⟩, hc2⟩ := hc
   simp only [gf, Bool.false_eq_true, if_false] at h
   cases ho : ops[i]? with
   | none => rw [ho] at hsome; cases hsome
   | some o =>
    rw [ho] at h
    obtain ⟨v, hy, hrest⟩ := h
    have hi : i ∈ Region.ready .any ops listed := by simpa using hready
    have hrec := ih _ _ _ (hcl.set hi) hc2 hf hrest
    have hp : gh ((i, none) :: rest) + fuel = gh rest + fuel + 1 := by simp only [gh]; omega
    rw [hp]
    simp only [if_true] at hy
    exact rm (depth := ops.size) (fun _ => True) ho (Region.noSelect_spec hs) (fun c a w => hQ o.dst v c a w) (.inl fun _ => trivial) (gh rest + fuel) listed a w hcl (Region.free_spec ho hfree) hi hy trivial hrec
end
section
variable (P : Program) (ol : List Oper) (K : St → Prop) (D : List Nat) (late : Nat → Bool)
/-- What is left, in whatever order; b: something late has come up. -/
def ju (b : Bool) (fuel : Nat) (listed : List Bool) (st : St) : Prop :=
 ∀ (E0 : Env) (w0 : World) (Q : Act → World → Prop), (∀ a' w' st' E', Ev E0 w0 E' w' → Sim E' w' st' a' → K st' → Q a' w') →
  ∀ E1 w1 a, Ev E0 w0 E1 w1 → Sim E1 w1 st a → (b = false → ∀ n ∈ D, E1.T n = E0.T n) → g9 P .any ol.toArray (ib Q) (Keeps E0 (· ∈ D) w0) late fuel listed.toArray a w1
def v6 (b : Bool) (fuel : Nat) (listed : List Bool) (i : Nat) (st : St) : Prop :=
 ∃ o, ol[i]? = some o ∧ fk ol.toArray st o = some true ∧ ((b = false ∧ EStep P o st fun st' => m5 D st st' ∧ ju P ol K D late false fuel (listed.set i true) st') ∨ (late i = true ∧ EStep P o st (ju P ol K D late true fuel (listed.set i true))))
def rj (b : Bool) (fuel : Nat) (listed : List Bool) (st : St) : List Nat → Prop
 | [] => True
 | i :: is => v6 P ol K D late b fuel listed i st ∧ rj b fuel listed st is
end
section
variable {P : Program} {ol : List Oper} {K : St → Prop} {D : List Nat} {late : Nat → Bool} {b : Bool} {fuel : Nat} {listed : List Bool} {st : St} {i : Nat} {is : List Nat} {o : Oper} {c : C}
theorem jc : rj P ol K D late b fuel listed st [] := trivial
theorem jd (h : v6 P ol K D late b fuel listed i st) (k : rj P ol K D late b fuel listed st is) : rj P ol K D late b fuel listed st (i :: is) := ⟨h, k⟩
theorem jb (hL : late i = true) (hol : ol[i]? = some o) (hg : fk ol.toArray st o = some true) {listed' : List Bool} (hl : listed.set i true = listed') (h : EStep P o st (ju P ol K D late true fuel listed')) : v6 P ol K D late b fuel listed i st :=
 ⟨o, hol, hg, .inr ⟨hL, by rw [hl]; exact h⟩⟩
theorem ri (hr : (Region.ready .any ol.toArray listed.toArray == []) = true) (h : K st) : ju P ol K D late b fuel listed st := by
 intro E0 w0 Q hQ E1 w1 a hev hs _
 have hr' : Region.ready .any ol.toArray listed.toArray = [] := by simpa using hr
 have hq := hQ a w1 st E1 hev hs h
 cases fuel with
 | zero => exact ⟨hr', hq⟩
 | succ n => exact ⟨fun _ => hq, fun i hi => by rw [hr'] at hi; cases hi⟩
theorem iz (is : List Nat) (hr : (Region.ready .any ol.toArray listed.toArray == is) = true) (hne : is ≠ []) (h : rj P ol K D late b fuel listed st is) : ju P ol K D late b (fuel + 1) listed st := by
 intro E0 w0 Q hQ E1 w1 a hev hs hb
 have hr' : Region.ready .any ol.toArray listed.toArray = is := by simpa using hr
 refine ⟨fun e => absurd (hr'.symm.trans e) hne, fun i hi => ?_⟩
 rw [hr'] at hi
 have hi' : v6 P ol K D late b fuel listed i st := by
  clear hr hr' hne
  induction is with
  | nil => cases hi
  | cons j is ih =>
   rcases List.mem_cons.1 hi with rfl | hi
   ·exact h.1
   ·exact ih h.2 hi
 obtain ⟨o, hol, hg, hcase⟩ := hi'
 have ho : ol.toArray[i]? = some o := by simpa using hol
 have hset : listed.toArray.setIfInBounds i true = (listed.set i true).toArray := by simp
 refine wpOp_step ho fun Kr hK => ?_
 rw [if_pos (l9 hg hs)]
 rcases hcase with ⟨rfl, h1⟩ | ⟨hL, h1⟩
 ·refine h1 E1 w1 a hs Kr _ fun a' w' st' E' q1 q2 q3 => ?_
  have hk := sq hs q1 q2 q3.1
  refine hK a' w' ⟨.inr fun hS => ⟨fun b j hj => (q1.cell b j (Nat.lt_of_lt_of_le hj (hev.L b))).trans (hS.1 b j hj), fun n hn ver wv val b ht hb' => ?_⟩, ?_⟩
  ·have := hb rfl n hn
   exact ((hk n hn).2 ver wv val b (this.trans ht) hb').trans (hS.2 n hn ver wv val b ht hb')
  ·rw [hset]
   exact q3.2 E0 w0 Q hQ E' w' a' (hev.trans q1) q2 fun e n hn => (hk n hn).1.trans (hb rfl n hn)
 ·refine h1 E1 w1 a hs Kr _ fun a' w' st' E' q1 q2 q3 => ?_
  refine hK a' w' ⟨.inl hL, ?_⟩
  rw [hset]
  exact q3 E0 w0 Q hQ E' w' a' (hev.trans q1) q2 fun e => by cases e
theorem je {total : Nat} (π : List (Nat × Option Nat)) (fuel : Nat) (listed' : List Bool)
  (hchk : (yi ol.toArray listed.toArray && (Region.noSelect ol.toArray && (me ol.toArray late (fun _ => true) π listed.toArray && ((ky π listed.toArray).toList == listed' && total == gh π + fuel)))) = true)
  (h : jf P ol.toArray (fun st' => m5 D st st' ∧ ju P ol K D late b fuel listed' st') [] late (fun _ => false) (fun _ => true) π st) : ju P ol K D late b total listed st := by
 simp only [Bool.and_eq_true, beq_iff_eq] at hchk
 obtain ⟨h0, h1, h2, h3, h4⟩ := hchk
 subst h4
 intro E0 w0 Q hQ E1 w1 a hev hs hb
 have hend : ky π listed.toArray = listed'.toArray := by rw [← h3]
 refine udp (S2 := Keeps E1 (· ∈ ([] : List Nat)) w1) (fun a' w' => g9 P .any ol.toArray (ib Q) (Keeps E0 (· ∈ D) w0) late fuel listed'.toArray a' w') fuel h1 (fun _ _ _ _ _ h => h) π _ a w1 (ucz h0) h2 (fun a' h' => by rw [hend]; exact h') ?_
 exact h E1 w1 _ (fun a' w' st' E' q1 q2 q3 => q3.2 E0 w0 Q hQ E' w' a' (hev.trans q1) q2 fun e n hn => ((sq hs q1 q2 q3.1) n hn).1.trans (hb e n hn)) a hs
theorem rc {id : Nat} {l : List Oper} {Q : Exit → St → Prop} (π : List (Nat × Option Nat)) (late N : Nat → Bool) (fuel : Nat) (listed : List Bool) (D : List Nat) (hm : P.follows .mixedOrders = true)
  (hchk : (qi l && (Region.noSelect l.toArray && (me l.toArray late N π (Array.replicate l.toArray.size false) && ((ky π (Array.replicate l.toArray.size false)).toList == listed && gh π + fuel == l.toArray.size)))) = true)
  (h : jf P l.toArray (fun st' => m5 D st st' ∧ ju P l (Q .normal) D late false fuel listed st') D late (fun _ => false) N π st) : AW ρ P (.region id l.toArray true) Q st := by
 intro E w a hs
 simp only [Bool.and_eq_true, beq_iff_eq] at hchk
 obtain ⟨h0, h1, h2, h3, h4⟩ := hchk
 have hev : Ev E w E w.drew := Ev.same ((Below.refl _ _).drew) rfl
 have hend : ky π (Array.replicate l.toArray.size false) = listed.toArray := by rw [← h3]
 have key : g9 P .any l.toArray (ib fun a' w' => l6 E w Q .normal a' w') (Keeps E (· ∈ D) w.drew) late (gh π + fuel) (Array.replicate l.toArray.size false) a w.drew := by
  refine v7 (fun a' w' => g9 P .any l.toArray (ib fun a' w' => l6 E w Q .normal a' w') (Keeps E (· ∈ D) w.drew) late fuel listed.toArray a' w') fuel h1 (fun _ _ _ _ _ h => h) π _ a w.drew ?_ h2 (Keeps.refl _ _ _) (fun a' h' => by rw [hend]; exact h') ?_
  ·intro j o _ hj
   rw [Array.getD_eq_getD_getElem?, Array.getElem?_replicate] at hj
   split at hj <;> simp at hj
  ·exact h E w.drew _ (fun a' w' st' E' q1 q2 q3 => q3.2 E w.drew _ (fun a2 w2 st2 E2 r1 r2 r3 => ⟨st2, E2, hev.trans r1, r2, r3⟩) E' w' a' q1 q2 fun _ n hn => ((sq hs.drew q1 q2 q3.1) n hn).1) a hs.drew
 rw [h4] at key
 refine gz (Q := ib fun a' w' => l6 E w Q .normal a' w') ?_ (yg hm h0 (te _ _ _ _ key))
 intro e a' w' hq
 cases e with
 | normal => exact hq
 | _ => exact hq.elim
end
/-- Four objects that are changed. -/
theorem px {g H : Nat → Option GObj} {a b c d : Nat} {oa ob oc od : GObj} (ha : H a = some oa) (hb : H b = some ob) (hc : H c = some oc) (hd : H d = some od) (h : ∀ n o, n ≠ a → n ≠ b → n ≠ c → n ≠ d → g n = some o → H n = some o) :
  ∀ n o, ai (ai (ai (ai g a oa) b ob) c oc) d od n = some o → H n = some o := by
 intro n o hn
 by_cases e1 : n = d
 ·subst e1; rw [i0] at hn; rw [hd]; exact hn
 ·rw [cm e1] at hn
  by_cases e2 : n = c
  ·subst e2; rw [i0] at hn; rw [hc]; exact hn
  ·rw [cm e2] at hn
   by_cases e3 : n = b
   ·subst e3; rw [i0] at hn; rw [hb]; exact hn
   ·rw [cm e3] at hn
    by_cases e4 : n = a
    ·subst e4; rw [i0] at hn; rw [ha]; exact hn
    ·rw [cm e4] at hn
     exact h n o e4 e3 e2 e1 hn
end Go.AB
namespace Go.AB
open Go Go.RowKit
section
variable {P : Program} {ol : List Oper} {K : St → Prop} {D : List Nat} {late : Nat → Bool}
theorem udg (I : List Bool → St → Prop) (stop : List Bool → Bool) (hf : qo ol = true) (hl : ∀ l st, I l st → l.length = ol.length) (hall : ∀ l st, I l st → (∀ i, i < ol.length → l[i]? = some true) → stop l = true)
  (hs : ∀ l st i o, I l st → stop l = false → ol[i]? = some o → l[i]? = some false → (∀ j ∈ mb o, l[j]? = some true) → fk ol.toArray st o = some true ∧ EStep P o st fun st' => m5 D st st' ∧ I (l.set i true) st')
  (he : ∀ l st, I l st → stop l = true → ju P ol K D late false (mp l) l st) : ∀ (fuel : Nat) (l : List Bool) (st : St), I l st → mp l = fuel → ju P ol K D late false fuel l st := by
 intro fuel
 induction fuel with
 | zero =>
  intro l st hI h0
  have hz : ∀ i, i < ol.length → l[i]? = some true := fun i hi => by
   have e := List.getElem?_eq_getElem (l := l) (i := i) (by rw [hl l st hI]; exact hi)
   cases hb : l[i]'(by rw [hl l st hI]; exact hi) with
   | true => rw [e, hb]
   | false => exact absurd (by rw [e, hb]) (ubf h0 i)
  have := he l st hI (hall l st hI hz)
  rwa [h0] at this
 | succ fuel ih =>
  intro l st hI h0
  cases hst : stop l with
  | true =>
   have := he l st hI hst
   rwa [h0] at this
  | false =>
   cases h : Region.ready .any ol.toArray l.toArray with
   | nil => rw [hall l st hI (wy hf (hl l st hI) h)] at hst; cases hst
   | cons i is =>
    refine iz (i :: is) (by rw [h]; exact beq_self_eq_true _) (by simp) ?_
    have key : ∀ js : List Nat, (∀ j ∈ js, j ∈ Region.ready .any ol.toArray l.toArray) → rj P ol K D late false fuel l st js := by
     intro js
     induction js with
     | nil => intro _; trivial
     | cons j js ihj =>
      intro hjs
      refine ⟨?_, ihj fun k hk => hjs k (List.mem_cons_of_mem _ hk)⟩
      obtain ⟨o, ho, h2, h3⟩ := wz (hjs j (List.mem_cons_self ..)) (hl l st hI)
      have hn : mp (l.set j true) = fuel := by have := uj h2; omega
      obtain ⟨hg, hE⟩ := hs l st j o hI hst ho h2 h3
      exact ⟨o, ho, hg, .inl ⟨rfl, hE.mono fun st' h' => ⟨h'.1, ih _ _ h'.2 hn⟩⟩⟩
    exact key (i :: is) fun j hj => by rw [h]; exact hj
/-- A state whose slots stand in another order. -/
theorem udf {b : Bool} {fuel : Nat} {listed : List Bool} {st st' : St} (hn : st.n = st'.n) (hd : st.df = st'.df) (hA : ∀ i, bw st.l st.r i = bw st'.l st'.r i) (hG : st.G = st'.G) (hx : st.nx = st'.nx) (h : ju P ol K D late b fuel listed st') : ju P ol K D late b fuel listed st := by
 intro E0 w0 Q hQ E1 w1 a hev hs hb
 refine h E0 w0 Q hQ E1 w1 a hev ⟨hd ▸ hs.d, hn ▸ hs.sz, fun i v hv => ?_, ?_⟩ hb
 ·have := hs.t i v hv
  rwa [hA] at this
 ·have := hs.g
  rwa [hG, hx] at this
end
theorem k7 {st st' : St} {n : Nat} {o : GObj} (h1 : st.G n = some o) (h2 : st'.G n = some o) : m5 [n] st st' := zt h1 h2 rfl zr
/-- whether an operation waits for another one -/
def kj (ol : List Oper) (i j : Nat) : Bool := ((ol[i]?).map fun o => (mb o).contains j).getD false
theorem ll {ol : List Oper} {i j : Nat} {o : Oper} (h : kj ol i j = true) (ho : ol[i]? = some o) : j ∈ mb o := by
 unfold kj at h
 rw [ho] at h
 simpa using h
/-- the slots, when so much came up: builds and appends of three lists -/
def adS (A0 : Nat → C) (c8 c9 c15 c16 c22 c23 : C) (b8 b9 b15 b16 b22 b23 : Bool) (i : Nat) : C :=
 bif b8 && Nat.beq 109 i then c8 else bif b9 && Nat.beq 110 i then c9 else bif b15 && Nat.beq 116 i then c15 else bif b16 && Nat.beq 117 i then c16 else bif b22 && Nat.beq 123 i then c22 else bif b23 && Nat.beq 124 i then c23 else A0 i
def adG (G0 G1 G2 G3 : Nat → Option GObj) (b9 b16 b23 : Bool) : Nat → Option GObj := bif b23 then G3 else bif b16 then G2 else bif b9 then G1 else G0
structure AdI (A0 : Nat → C) (c8 c9 c15 c16 c22 c23 : C) (G0 G1 G2 G3 : Nat → Option GObj) (nn df nx : Nat) (b8 b9 b15 b16 b22 b23 : Bool) (st : St) : Prop where
 n : st.n = nn
 df : st.df = df
 nx : st.nx = nx
 A : ∀ i, bw st.l st.r i = adS A0 c8 c9 c15 c16 c22 c23 b8 b9 b15 b16 b22 b23 i
 G : st.G = adG G0 G1 G2 G3 b9 b16 b23
 e9 : b9 = true → b8 = true
 e16 : b16 = true → b15 = true ∧ b9 = true
 e23 : b23 = true → b22 = true ∧ b16 = true
theorem gd {a b i : Nat} (h : Nat.beq a i = true) (hab : Nat.beq a b = false) : Nat.beq b i = false := by
 have := Nat.eq_of_beq_eq_true h
 subst this
 cases e : Nat.beq b a
 ·rfl
 ·have := Nat.eq_of_beq_eq_true e
  subst this
  rw [Nat.beq_refl] at hab; cases hab
end Go.AB
namespace Go.AB
open Go Go.RowKit
section
variable {A0 : Nat → C} {c8 c9 c15 c16 c22 c23 : C} {G0 G1 G2 G3 : Nat → Option GObj} {nn df nx : Nat} {b8 b9 b15 b16 b22 b23 : Bool} {st : St}
theorem AdI.cong {x : List (Nat × C)} {g g' : Nat → Option GObj} (e : g = g') (h : AdI A0 c8 c9 c15 c16 c22 c23 G0 G1 G2 G3 nn df nx b8 b9 b15 b16 b22 b23 { st with r := x, G := g' }) : AdI A0 c8 c9 c15 c16 c22 c23 G0 G1 G2 G3 nn df nx b8 b9 b15 b16 b22 b23 { st with r := x, G := g } := by
 subst e; exact h
theorem AdI.step8 (h : AdI A0 c8 c9 c15 c16 c22 c23 G0 G1 G2 G3 nn df nx false b9 b15 b16 b22 b23 st) (k9 : b9 = false) (k16 : b16 = false) (k23 : b23 = false) : AdI A0 c8 c9 c15 c16 c22 c23 G0 G1 G2 G3 nn df nx true b9 b15 b16 b22 b23 { st with r := (109, c8) :: st.r } := by
 subst k9
 subst k16
 subst k23
 exact {
  n := h.n
  df := h.df
  nx := h.nx
  A := fun i => by
   show (bif Nat.beq 109 i then _ else bw st.l st.r i) = _
   rw [h.A i]
   cases e : Nat.beq 109 i
   ·simp only [adS, e, Bool.and_false, Bool.false_and, cond_false]
   ·rw [← Nat.eq_of_beq_eq_true e]
    cases b15 <;> cases b22 <;> rfl
  G := h.G
  e9 := fun _ => rfl
  e16 := fun e => nomatch e
  e23 := fun e => nomatch e }
theorem AdI.step9 (h : AdI A0 c8 c9 c15 c16 c22 c23 G0 G1 G2 G3 nn df nx true false b15 b16 b22 b23 st) (k16 : b16 = false) (k23 : b23 = false) : AdI A0 c8 c9 c15 c16 c22 c23 G0 G1 G2 G3 nn df nx true true b15 b16 b22 b23 { st with r := (110, c9) :: st.r, G := G1 } := by
 subst k16
 subst k23
 exact {
  n := h.n
  df := h.df
  nx := h.nx
  A := fun i => by
   show (bif Nat.beq 110 i then _ else bw st.l st.r i) = _
   rw [h.A i]
   cases e : Nat.beq 110 i
   ·simp only [adS, e, Bool.and_false, Bool.false_and, cond_false]
   ·rw [← Nat.eq_of_beq_eq_true e]
    cases b15 <;> cases b22 <;> rfl
  G := rfl
  e9 := fun _ => rfl
  e16 := fun e => nomatch e
  e23 := fun e => nomatch e }
theorem AdI.step15 (h : AdI A0 c8 c9 c15 c16 c22 c23 G0 G1 G2 G3 nn df nx b8 b9 false b16 b22 b23 st) (k16 : b16 = false) (k23 : b23 = false) : AdI A0 c8 c9 c15 c16 c22 c23 G0 G1 G2 G3 nn df nx b8 b9 true b16 b22 b23 { st with r := (116, c15) :: st.r } := by
 subst k16
 subst k23
 exact {
  n := h.n
  df := h.df
  nx := h.nx
  A := fun i => by
   show (bif Nat.beq 116 i then _ else bw st.l st.r i) = _
   rw [h.A i]
   cases e : Nat.beq 116 i
   ·simp only [adS, e, Bool.and_false, Bool.false_and, cond_false]
   ·rw [← Nat.eq_of_beq_eq_true e]
    cases b8 <;> cases b9 <;> cases b22 <;> rfl
  G := h.G
  e9 := h.e9
  e16 := fun e => nomatch e
  e23 := fun e => nomatch e }
theorem AdI.step16 (h : AdI A0 c8 c9 c15 c16 c22 c23 G0 G1 G2 G3 nn df nx true true true false b22 b23 st) (k23 : b23 = false) : AdI A0 c8 c9 c15 c16 c22 c23 G0 G1 G2 G3 nn df nx true true true true b22 b23 { st with r := (117, c16) :: st.r, G := G2 } := by
 subst k23
 exact {
  n := h.n
  df := h.df
  nx := h.nx
  A := fun i => by
   show (bif Nat.beq 117 i then _ else bw st.l st.r i) = _
   rw [h.A i]
   cases e : Nat.beq 117 i
   ·simp only [adS, e, Bool.and_false, Bool.false_and, cond_false]
   ·rw [← Nat.eq_of_beq_eq_true e]
    cases b22 <;> rfl
  G := rfl
  e9 := fun _ => rfl
  e16 := fun _ => ⟨rfl, rfl⟩
  e23 := fun e => nomatch e }
theorem AdI.step22 (h : AdI A0 c8 c9 c15 c16 c22 c23 G0 G1 G2 G3 nn df nx b8 b9 b15 b16 false b23 st) (k23 : b23 = false) : AdI A0 c8 c9 c15 c16 c22 c23 G0 G1 G2 G3 nn df nx b8 b9 b15 b16 true b23 { st with r := (123, c22) :: st.r } := by
 subst k23
 exact {
  n := h.n
  df := h.df
  nx := h.nx
  A := fun i => by
   show (bif Nat.beq 123 i then _ else bw st.l st.r i) = _
   rw [h.A i]
   cases e : Nat.beq 123 i
   ·simp only [adS, e, Bool.and_false, Bool.false_and, cond_false]
   ·rw [← Nat.eq_of_beq_eq_true e]
    cases b8 <;> cases b9 <;> cases b15 <;> cases b16 <;> rfl
  G := h.G
  e9 := h.e9
  e16 := h.e16
  e23 := fun e => nomatch e }
theorem AdI.step23 (h : AdI A0 c8 c9 c15 c16 c22 c23 G0 G1 G2 G3 nn df nx true true true true true false st)  : AdI A0 c8 c9 c15 c16 c22 c23 G0 G1 G2 G3 nn df nx true true true true true true { st with r := (124, c23) :: st.r, G := G3 } := by
 exact {
  n := h.n
  df := h.df
  nx := h.nx
  A := fun i => by
   show (bif Nat.beq 124 i then _ else bw st.l st.r i) = _
   rw [h.A i]
   cases e : Nat.beq 124 i
   ·simp only [adS, e, Bool.and_false, Bool.false_and, cond_false]
   ·rw [← Nat.eq_of_beq_eq_true e]
    rfl
  G := rfl
  e9 := fun _ => rfl
  e16 := fun _ => ⟨rfl, rfl⟩
  e23 := fun _ => ⟨rfl, rfl⟩ }
end
/-- the flags, as the list of what came up -/
def adL (b8 b9 b15 b16 b22 b23 : Bool) : List Bool := [true, true, true, true, true, true, true, true, b8, b9, true, true, true, true, true, b15, b16, true, true, true, true, true, b22, b23, false, false, false, false, false, false, false, false, false]
theorem ox {a b : Bool} (h : a = true → b = true) (hb : b = false) : a = false := by
 cases a
 ·rfl
 ·rw [h rfl] at hb; cases hb
theorem li {ops : Array Oper} {st : St} {o : Oper} (h1 : qn o.op = false) (h2 : o.guard = none) : fk ops st o = some true := by
 unfold fk su
 rw [h1, h2]; rfl
theorem ja {st : St} {i n : Nat} {c : C} (hn : st.n = n) (hi : Nat.blt i n = true) (h : bw st.l st.r i = c) : st.at i = c := by
 unfold St.at
 rw [hn, hi]; exact h
end Go.AB
namespace Go.Proofs.YtgffhbbcpgdjjaaDoor
set_option maxRecDepth 10000
open Go Go.RowKit Go.AB
open Go.AB.Enc (cells)
open Go.PB (PlaceD)
set_option maxHeartbeats 1000000 in
theorem udd (ws : List Int) (al bo : List (List PlaceD)) (w : Int) (fo bt : List PlaceD) (nB a1 a2 a3 : Nat) {ob : GObj} {ol : List Oper} {K : St → Prop} {late : Nat → Bool} (st0 : St) (hlen : ol.length = 33) (hf : qo ol = true) (hgd : (ol.all fun o => o.guard.isNone) = true)
  (hdp : (kj ol 9 8 && kj ol 16 15 && kj ol 16 9 && kj ol 23 22 && kj ol 23 16 && (List.range 9).all fun i => kj ol (24 + i) 23) = true)
  (q8 : (ol[8]?).map (fun o => (o.op, o.dst)) = some (.buildSlice 57 1 #[(0, .tmp 108)], some 109)) (q9 : (ol[9]?).map (fun o => (o.op, o.dst)) = some (.call { callee := .builtin .append, args := #[.tmp 107, .tmp 109], argTypes := #[57, 57] }, some 110))
  (q15 : (ol[15]?).map (fun o => (o.op, o.dst)) = some (.buildSlice 52 1 #[(0, .tmp 115)], some 116)) (q16 : (ol[16]?).map (fun o => (o.op, o.dst)) = some (.call { callee := .builtin .append, args := #[.tmp 114, .tmp 116], argTypes := #[52, 52] }, some 117))
  (q22 : (ol[22]?).map (fun o => (o.op, o.dst)) = some (.buildSlice 52 1 #[(0, .tmp 122)], some 123)) (q23 : (ol[23]?).map (fun o => (o.op, o.dst)) = some (.call { callee := .builtin .append, args := #[.tmp 121, .tmp 123], argTypes := #[52, 52] }, some 124))
  (hn : st0.n = 131) (h107 : bw st0.l st0.r 107 = .list (ws.map cells) (.tip a1)) (h108 : bw st0.l st0.r 108 = .v (.int .i64 w)) (h114 : bw st0.l st0.r 114 = .list (al.map cells) (.tip a2)) (h115 : bw st0.l st0.r 115 = lst fo) (h121 : bw st0.l st0.r 121 = .list (bo.map cells) (.tip a3)) (h122 : bw st0.l st0.r 122 = lst bt)
  (hB : st0.G nB = some ob) (hG1 : st0.G a1 = some (.tip ws.length 3 1)) (hG2 : st0.G a2 = some (.tip al.length 36 1)) (hG3 : st0.G a3 = some (.tip bo.length 36 1))
  (d1 : nB ≠ a1) (d2 : nB ≠ a2) (d3 : nB ≠ a3) (d4 : a1 ≠ a2) (d5 : a1 ≠ a3) (d6 : a2 ≠ a3) (lw : ws.length ≤ 100) (la : al.length ≤ 100) (lb : bo.length ≤ 100)
  (hK : ju Tryd.prog ol K [nB] late false 9 (adL true true true true true true) { st0 with r := (124, .list ((bo ++ [bt]).map cells) (.tip a3)) :: (123, .list [[lst bt]] .none) :: (117, .list ((al ++ [fo]).map cells) (.tip a2)) :: (116, .list [[lst fo]] .none) :: (110, .list ((ws ++ [w]).map cells) (.tip a1)) :: (109, .list [[.v (.int .i64 w)]] .none) :: st0.r, G := ai (ai (ai st0.G a1 (.tip (ws ++ [w]).length 3 1)) a2 (.tip (al ++ [fo]).length 36 1)) a3 (.tip (bo ++ [bt]).length 36 1) }) :
  ju Tryd.prog ol K [nB] late false 15 (adL false false false false false false) st0 := by
 have hop : ∀ {i : Nat} {o : Oper} {q : Op} {d : Option Tmp}, ol[i]? = some o → (ol[i]?).map (fun o => (o.op, o.dst)) = some (q, d) → o.op = q ∧ o.dst = d := fun {i o q d} h k => by
  rw [h] at k
  simp only [Option.map_some, Option.some.injEq, Prod.mk.injEq] at k
  exact k
 simp only [Bool.and_eq_true, List.all_eq_true, List.mem_range] at hdp
 obtain ⟨⟨⟨⟨⟨p1, p2⟩, p3⟩, p4⟩, p5⟩, p6⟩ := hdp
 obtain ⟨G1, hG1'⟩ : ∃ G1, ai st0.G a1 (.tip (ws ++ [w]).length 3 1) = G1 := ⟨_, rfl⟩
 obtain ⟨G2, hG2'⟩ : ∃ G2, ai G1 a2 (.tip (al ++ [fo]).length 36 1) = G2 := ⟨_, rfl⟩
 obtain ⟨G3, hG3'⟩ : ∃ G3, ai G2 a3 (.tip (bo ++ [bt]).length 36 1) = G3 := ⟨_, rfl⟩
 rw [hG1', hG2', hG3'] at hK
 have k1 : G1 a2 = some (.tip al.length 36 1) := by rw [← hG1', cm d4.symm]; exact hG2
 have k2 : G2 a3 = some (.tip bo.length 36 1) := by rw [← hG2', cm d6.symm, ← hG1', cm d5.symm]; exact hG3
 have m1 : G1 nB = some ob := by rw [← hG1', cm d1]; exact hB
 have m2 : G2 nB = some ob := by rw [← hG2', cm d2]; exact m1
 have m3 : G3 nB = some ob := by rw [← hG3', cm d3]; exact m2
 have mB : ∀ b9 b16 b23, adG st0.G G1 G2 G3 b9 b16 b23 nB = some ob := fun b9 b16 b23 => by
  cases b23 <;> cases b16 <;> cases b9 <;> assumption
 refine udg (fun l st => ∃ b8 b9 b15 b16 b22 b23, l = adL b8 b9 b15 b16 b22 b23 ∧ AdI (bw st0.l st0.r) (.list [[.v (.int .i64 w)]] .none) (.list ((ws ++ [w]).map cells) (.tip a1)) (.list [[lst fo]] .none) (.list ((al ++ [fo]).map cells) (.tip a2)) (.list [[lst bt]] .none) (.list ((bo ++ [bt]).map cells) (.tip a3)) st0.G G1 G2 G3 131 st0.df st0.nx b8 b9 b15 b16 b22 b23 st) (fun l => (l[23]?).getD false) hf ?_ ?_ ?_ ?_ 15 _ st0 ?_ rfl
 ·rintro l st ⟨b8, b9, b15, b16, b22, b23, rfl, h⟩
  rw [hlen]; rfl
 ·rintro l st ⟨b8, b9, b15, b16, b22, b23, rfl, h⟩ hall
  rw [hlen] at hall
  have := hall 23 (by omega)
  show ((adL b8 b9 b15 b16 b22 b23)[23]?).getD false = true
  rw [this]; rfl
 ·rintro l st i o ⟨b8, b9, b15, b16, b22, b23, rfl, h⟩ hst hi hoff hdeps
  have hb23 : b23 = false := hst
  subst hb23
  have hlt := (List.getElem?_eq_some_iff.1 hi).1
  rw [hlen] at hlt
  have hgo : o.guard = none := by
   have := List.all_eq_true.1 hgd o (List.mem_of_getElem? hi)
   simpa using this
  have hsB := h.G ▸ mB b9 b16 false
  have hcase : (i = 8 ∨ i = 9 ∨ i = 15 ∨ i = 16 ∨ i = 22 ∨ i = 23) ∨ 24 ≤ i ∨ i = 0 ∨ i = 1 ∨ i = 2 ∨ i = 3 ∨ i = 4 ∨ i = 5 ∨ i = 6 ∨ i = 7 ∨ i = 10 ∨ i = 11 ∨ i = 12 ∨ i = 13 ∨ i = 14 ∨ i = 17 ∨ i = 18 ∨ i = 19 ∨ i = 20 ∨ i = 21 := by omega
  rcases hcase with (rfl | rfl | rfl | rfl | rfl | rfl) | h24 | rfl | rfl | rfl | rfl | rfl | rfl | rfl | rfl | rfl | rfl | rfl | rfl | rfl | rfl | rfl | rfl | rfl | rfl
  ·obtain ⟨e1, e2⟩ := hop hi q8
   obtain rfl : b8 = false := Option.some.inj hoff
   refine ⟨li (by rw [e1]; rfl) hgo, ef (rows := [[.v (.int .i64 w)]]) (parts := [(0, .tmp 108)]) e1 rfl ?_ (by decide) (by decide) (by simp) (by decide) ?_⟩
   ·show j9 [(0, st.at 108)] = _
    rw [ja (c := .v (.int .i64 w)) h.n rfl (by rw [h.A]; cases b9 <;> cases b15 <;> cases b16 <;> cases b22 <;> exact h108)]; rfl
   ·rw [e2]
    exact ⟨k7 hsB hsB, true, b9, b15, b16, b22, false, rfl, h.step8 (ox h.e9 rfl) (ox (fun e => h.e9 (h.e16 e).2) rfl) rfl⟩
  ·obtain ⟨e1, e2⟩ := hop hi q9
   obtain rfl : b9 = false := Option.some.inj hoff
   obtain rfl : b8 = true := Option.some.inj (hdeps 8 (ll p1 hi))
   have hk16 : b16 = false := ox (fun e => (h.e16 e).2) rfl
   subst hk16
   have hG := h.G
   refine ⟨li (by rw [e1]; rfl) hgo, ma [w] e1 (ja h.n rfl (by rw [h.A]; cases b15 <;> cases b22 <;> exact h107)) (by rw [hG]; exact hG1) rfl (ja (c := .list [[.v (.int .i64 w)]] .none) h.n rfl (by rw [h.A]; rfl)) rfl (by simp only [List.length_cons, List.length_nil]; omega) ?_ (by simp only [List.length_cons, List.length_nil]; omega)⟩
   rw [e2]
   have e3 : ai st.G a1 (.tip (ws ++ [w]).length 3 1) = G1 := by rw [hG]; exact hG1'
   refine ⟨k7 hsB (by show ai st.G a1 _ nB = _; rw [cm d1]; exact hsB), true, true, b15, false, b22, false, rfl, ?_⟩
   exact (h.step9 rfl rfl).cong e3
  ·obtain ⟨e1, e2⟩ := hop hi q15
   obtain rfl : b15 = false := Option.some.inj hoff
   refine ⟨li (by rw [e1]; rfl) hgo, ef (rows := [[lst fo]]) (parts := [(0, .tmp 115)]) e1 rfl ?_ (by decide) (by decide) (by simp) (by decide) ?_⟩
   ·show j9 [(0, st.at 115)] = _
    rw [ja (c := lst fo) h.n rfl (by rw [h.A]; cases b8 <;> cases b9 <;> cases b16 <;> cases b22 <;> exact h115)]; rfl
   ·rw [e2]
    exact ⟨k7 hsB hsB, b8, b9, true, b16, b22, false, rfl, h.step15 (ox (fun e => (h.e16 e).1) rfl) rfl⟩
  ·obtain ⟨e1, e2⟩ := hop hi q16
   obtain rfl : b16 = false := Option.some.inj hoff
   obtain rfl : b15 = true := Option.some.inj (hdeps 15 (ll p2 hi))
   obtain rfl : b9 = true := Option.some.inj (hdeps 9 (ll p3 hi))
   obtain rfl : b8 = true := h.e9 rfl
   have hG := h.G
   refine ⟨li (by rw [e1]; rfl) hgo, ma [fo] e1 (ja h.n rfl (by rw [h.A]; cases b22 <;> exact h114)) (by rw [hG]; exact k1) rfl (ja (c := .list [[lst fo]] .none) h.n rfl (by rw [h.A]; rfl)) rfl (by simp only [List.length_cons, List.length_nil]; omega) ?_ (by simp only [List.length_cons, List.length_nil]; omega)⟩
   rw [e2]
   have e3 : ai st.G a2 (.tip (al ++ [fo]).length 36 1) = G2 := by rw [hG]; exact hG2'
   refine ⟨k7 hsB (by show ai st.G a2 _ nB = _; rw [cm d2]; exact hsB), true, true, true, true, b22, false, rfl, ?_⟩
   exact (h.step16 rfl).cong e3
  ·obtain ⟨e1, e2⟩ := hop hi q22
   obtain rfl : b22 = false := Option.some.inj hoff
   refine ⟨li (by rw [e1]; rfl) hgo, ef (rows := [[lst bt]]) (parts := [(0, .tmp 122)]) e1 rfl ?_ (by decide) (by decide) (by simp) (by decide) ?_⟩
   ·show j9 [(0, st.at 122)] = _
    rw [ja (c := lst bt) h.n rfl (by rw [h.A]; cases b8 <;> cases b9 <;> cases b15 <;> cases b16 <;> exact h122)]; rfl
   ·rw [e2]
    exact ⟨k7 hsB hsB, b8, b9, b15, b16, true, false, rfl, h.step22 rfl⟩
  ·obtain ⟨e1, e2⟩ := hop hi q23
   obtain rfl : b22 = true := Option.some.inj (hdeps 22 (ll p4 hi))
   obtain rfl : b16 = true := Option.some.inj (hdeps 16 (ll p5 hi))
   obtain rfl : b15 = true := (h.e16 rfl).1
   obtain rfl : b9 = true := (h.e16 rfl).2
   obtain rfl : b8 = true := h.e9 rfl
   have hG := h.G
   refine ⟨li (by rw [e1]; rfl) hgo, ma [bt] e1 (ja h.n rfl (by rw [h.A]; exact h121)) (by rw [hG]; exact k2) rfl (ja (c := .list [[lst bt]] .none) h.n rfl (by rw [h.A]; rfl)) rfl (by simp only [List.length_cons, List.length_nil]; omega) ?_ (by simp only [List.length_cons, List.length_nil]; omega)⟩
   rw [e2]
   have e3 : ai st.G a3 (.tip (bo ++ [bt]).length 36 1) = G3 := by rw [hG]; exact hG3'
   refine ⟨k7 hsB (by show ai st.G a3 _ nB = _; rw [cm d3]; exact hsB), true, true, true, true, true, true, rfl, ?_⟩
   exact (h.step23).cong e3
  ·have hm := hdeps 23 (ll (i := i) (by have := p6 (i - 24) (by omega); rwa [show 24 + (i - 24) = i by omega] at this) hi)
   cases hm
  all_goals (cases hoff)
 ·rintro l st ⟨b8, b9, b15, b16, b22, b23, rfl, h⟩ hst
  obtain rfl : b23 = true := hst
  obtain ⟨rfl, rfl⟩ := h.e23 rfl
  obtain ⟨rfl, rfl⟩ := h.e16 rfl
  obtain rfl := h.e9 rfl
  refine udf ?_ ?_ (fun i => ?_) ?_ ?_ hK
  ·exact h.n.trans hn.symm
  ·exact h.df
  rotate_left
  ·exact h.G
  ·exact h.nx
  rw [h.A i]
  unfold adS
  show (bif Nat.beq 109 i then _ else bif Nat.beq 110 i then _ else bif Nat.beq 116 i then _ else bif Nat.beq 117 i then _ else bif Nat.beq 123 i then _ else bif Nat.beq 124 i then _ else bw st0.l st0.r i) = (bif Nat.beq 124 i then _ else bif Nat.beq 123 i then _ else bif Nat.beq 117 i then _ else bif Nat.beq 116 i then _ else bif Nat.beq 110 i then _ else bif Nat.beq 109 i then _ else bw st0.l st0.r i)
  cases e1 : Nat.beq 109 i
  ·cases e2 : Nat.beq 110 i
   ·cases e3 : Nat.beq 116 i
    ·cases e4 : Nat.beq 117 i
     ·cases e5 : Nat.beq 123 i
      ·cases e6 : Nat.beq 124 i <;> rfl
      ·rw [gd e5 (b := 124) rfl]; rfl
     ·rw [gd e4 (b := 124) rfl, gd e4 (b := 123) rfl]; rfl
    ·rw [gd e3 (b := 124) rfl, gd e3 (b := 123) rfl, gd e3 (b := 117) rfl]; rfl
   ·rw [gd e2 (b := 124) rfl, gd e2 (b := 123) rfl, gd e2 (b := 117) rfl, gd e2 (b := 116) rfl]; rfl
  ·rw [gd e1 (b := 124) rfl, gd e1 (b := 123) rfl, gd e1 (b := 117) rfl, gd e1 (b := 116) rfl, gd e1 (b := 110) rfl]; rfl
 ·exact ⟨false, false, false, false, false, false, rfl, { n := hn, df := rfl, nx := rfl, A := fun _ => rfl, G := rfl, e9 := (fun e => nomatch e), e16 := (fun e => nomatch e), e23 := (fun e => nomatch e) }⟩
end Go.Proofs.YtgffhbbcpgdjjaaDoor
namespace Go.AB
section
variable {N : Net} {R C : Nat → Int}
end
end Go.AB
namespace Go.AB
open Go Go.RowKit
open Go.AB.Enc (cells)
open Go.PB (ay aj PlaceD bh bj bi bx aq am cv co)
/-! ### What valid proofs are -/
structure pt (p : am) : Prop where
 text : dl p.text = true
 nf : p.firsts.length ≤ 3
 ns : p.seconds.length ≤ 3
 np : p.pages.length ≤ 8
 rd : ∀ r ∈ p.firsts ++ p.seconds, ff r = true
 page : ∀ (j : Nat) (x : aq), p.pages[j]? = some x → ka p (fg p.pages j) x = true
theorem mc {p : am} (h : em p = 0) : pt p ∧ fw p = true := by
 unfold em at h
 cases ht : dl p.text
 ·rw [ht] at h; simp at h
 ·cases hp : fw p
  ·rw [ht, hp] at h; simp at h
  ·refine ⟨?_, rfl⟩
   unfold fw iq at hp
   simp only [Bool.and_eq_true, decide_eq_true_eq] at hp
   obtain ⟨⟨⟨⟨⟨h1, h2⟩, h3⟩, _⟩, h5⟩, h6⟩ := hp
   refine ⟨ht, h1, h2, h5, fun r hr => List.all_eq_true.1 h3 r hr, fun j x hx => ?_⟩
   have hj := (List.getElem?_eq_some_iff.1 hx).1
   have := List.all_eq_true.1 h6 j (List.mem_range.2 hj)
   unfold r5 at this
   rw [hx] at this
   exact this
structure mh (p : am) (last : Int) (x : aq) : Prop where
 fr : last < x.fr
 to : x.fr ≤ x.to
 lt : x.to < (lg p.text : Int)
 fst : -1 ≤ x.fst ∧ x.fst ≤ (p.firsts.length : Int) - 1
 snd : -1 ≤ x.snd ∧ x.snd ≤ (p.seconds.length : Int) - 1
 found : gr p.text x x.fst x.found = true
 well : gr p.text x x.snd x.well = true
theorem pageB_true {p : am} {last : Int} {x : aq} : ka p last x = true ↔ mh p last x := by
 unfold ka
 simp only [Bool.and_eq_true, decide_eq_true_eq, inB_true]
 exact ⟨fun ⟨⟨⟨⟨⟨⟨h1, h2⟩, h3⟩, h4⟩, h5⟩, h6⟩, h7⟩ => ⟨h1, h2, h3, h4, h6, h5, h7⟩, fun h => ⟨⟨⟨⟨⟨⟨h.fr, h.to⟩, h.lt⟩, h.fst⟩, h.found⟩, h.snd⟩, h.well⟩⟩
theorem nv {t : aj} {x : aq} {r : Int} {l : List PlaceD} (h : gr t x r l = true) {q : PlaceD} (hq : q ∈ l) : ey t q = true ∧ el t x q = true := by
 unfold gr at h
 rw [Bool.and_eq_true] at h
 obtain ⟨i, hi⟩ := List.getElem?_of_mem hq
 have := List.all_eq_true.1 h.2 i (List.mem_range.2 (List.getElem?_eq_some_iff.1 hi).1)
 unfold i7 at this
 rw [hi] at this
 simp only [Bool.and_eq_true] at this
 exact this.1
theorem uhu {t : aj} {x : aq} {r : Int} {l : List PlaceD} (h : gr t x r l = true) {i : Nat} {a q : PlaceD} (ha : l[i]? = some a) (hq : l[i + 1]? = some q) : gk (da a) (da q) < 0 := by
 unfold gr at h
 rw [Bool.and_eq_true] at h
 have := List.all_eq_true.1 h.2 (i + 1) (List.mem_range.2 (List.getElem?_eq_some_iff.1 hq).1)
 unfold i7 at this
 rw [hq, Nat.add_sub_cancel, ha] at this
 have h9 : (ey t q = true ∧ el t x q = true) ∧ gk (da a) (da q) < 0 := by simpa [mf] using this
 exact h9.2
theorem uc2 {a b c : PlaceD} (h : gk (da a) (da b) < 0) (k : gk (da b) (da c) < 0) : gk (da a) (da c) < 0 := by
 rw [o6 (by rfl)] at h k ⊢
 exact sg h k
theorem yr (a : PlaceD) : ¬ gk (da a) (da a) < 0 := by
 rw [o6 (by rfl)]
 exact po _
theorem uel {l : List PlaceD} (h : ∀ (i : Nat) (a q : PlaceD), l[i]? = some a → l[i + 1]? = some q → gk (da a) (da q) < 0) : l.Pairwise fun a b => gk (da a) (da b) < 0 := by
 rw [List.pairwise_iff_getElem]
 intro i j hi hj hij
 have key : ∀ d (hd : i + 1 + d < l.length), gk (da l[i]) (da l[i + 1 + d]) < 0 := by
  intro d
  induction d with
  | zero => intro hd; exact h i _ _ (List.getElem?_eq_getElem hi) (List.getElem?_eq_getElem hd)
  | succ d ih =>
   intro hd
   exact uc2 (ih (by omega)) (h (i + 1 + d) _ _ (List.getElem?_eq_getElem (by omega)) (List.getElem?_eq_getElem hd))
 have := key (j - (i + 1)) (by omega)
 simpa [show i + 1 + (j - (i + 1)) = j by omega] using this
theorem o5 {t : aj} {x : aq} {r : Int} {l : List PlaceD} (h : gr t x r l = true) : l.Pairwise fun a b => gk (da a) (da b) < 0 := uel fun _ _ _ ha hq => uhu h ha hq
/-- lists in order, with the same places -/
theorem tq : ∀ {l m : List PlaceD}, l.Pairwise (fun a b => gk (da a) (da b) < 0) → m.Pairwise (fun a b => gk (da a) (da b) < 0) → (∀ q, q ∈ l ↔ q ∈ m) → l = m
 | [], [], _, _, _ => rfl
 | [], b :: m, _, _, h => by have := (h b).2 (List.mem_cons_self ..); cases this
 | a :: l, [], _, _, h => by have := (h a).1 (List.mem_cons_self ..); cases this
 | a :: l, b :: m, h1, h2, h => by
  rw [List.pairwise_cons] at h1 h2
  have hab : a = b := by
   have p1 := (h a).1 (List.mem_cons_self ..)
   have p2 := (h b).2 (List.mem_cons_self ..)
   rw [List.mem_cons] at p1 p2
   rcases p1 with rfl | p1
   ·rfl
   ·rcases p2 with rfl | p2
    ·rfl
    ·exact absurd (uc2 (h1.1 b p2) (h2.1 a p1)) (yr a)
  subst hab
  rw [tq h1.2 h2.2 fun q => ?_]
  constructor
  ·intro hq
   have := (h q).1 (List.mem_cons_of_mem _ hq)
   rw [List.mem_cons] at this
   rcases this with rfl | this
   ·exact absurd (h1.1 q hq) (yr q)
   ·exact this
  ·intro hq
   have := (h q).2 (List.mem_cons_of_mem _ hq)
   rw [List.mem_cons] at this
   rcases this with rfl | this
   ·exact absurd (h2.1 q hq) (yr q)
   ·exact this
/-! ### Pages between readers -/
end Go.AB
namespace Go.AB
open Go Go.RowKit
open Go.AB.Enc (cells)
/-! ### Lists of numbers that are looked up -/
end Go.AB
namespace Go.AB
open Go Go.RowKit
open Go.AB.Enc (cells)
open Go.PB (ay aj PlaceD bh bj bi bx aq am cv co)
/-! ### All places are in order -/
theorem ui5 (t : aj) : (dh t).Pairwise fun a b => gk (da a) (da b) < 0 := by
 unfold dh
 rw [List.pairwise_map, List.pairwise_iff_getElem]
 intro i j hi hj hij
 have h1 := List.getElem?_eq_getElem hi
 have h2 := List.getElem?_eq_getElem hj
 have h := ugo (udb h1).1 (udb h2).1
 rw [xf h1 rfl, xf h2 rfl] at h
 rw [o6 (by rfl), ← h]
 omega
theorem allQ_mem {t : aj} {q : PlaceD} : q ∈ dh t ↔ ey t q = true := allP_mem
theorem vf {t : aj} (f : PlaceD → Bool) : ((dh t).filter f).Pairwise fun a b => gk (da a) (da b) < 0 := (ui5 t).filter _
/-- places in order, of a text, are those of all places that are among them -/
theorem ues {t : aj} {l : List PlaceD} (h : l.Pairwise fun a b => gk (da a) (da b) < 0) (hp : ∀ q ∈ l, ey t q = true) : l = (dh t).filter fun q => decide (q ∈ l) :=
 tq h (vf _) fun q => by
  rw [List.mem_filter, decide_eq_true_eq, allQ_mem]
  exact ⟨fun h => ⟨hp q h, h⟩, fun h => h.2⟩
theorem uhv {t : aj} {x : aq} {r : Int} {l : List PlaceD} (h : gr t x r l = true) : l = (dh t).filter fun q => decide (q ∈ l) := ues (o5 h) fun q hq => (nv h hq).1
theorem io {t : aj} {x : aq} {r : Int} {l : List PlaceD} (h : gr t x r l = true) : l.length ≤ (dh t).length := by
 rw [uhv h]
 exact List.length_filter_le _ _
theorem pp (t : aj) (x : aq) : (ca t x).length ≤ (dh t).length := List.length_filter_le _ _
theorem rb (t : aj) (x : aq) : (bf t x).length ≤ (dh t).length := List.length_filter_le _ _
theorem v8 (t : aj) (x : aq) : dw t x ≤ (dh t).length := List.length_filter_le _ _
/-! ### How great numbers are -/
theorem wl {g : aq → Nat} {m : Nat} : ∀ {l : List aq}, (∀ x ∈ l, g x ≤ m) → cp l g ≤ l.length * m
 | [], _ => by simp [cp]
 | x :: l, h => by
  have h1 := wl (l := l) fun y hy => h y (List.mem_cons_of_mem _ hy)
  have h2 := h x (List.mem_cons_self ..)
  simp only [cp, List.map_cons, List.sum_cons, List.length_cons] at h1 ⊢
  rw [Nat.succ_mul]
  omega
theorem w8 {p : am} (h : pt p) (b : Bool) (i : Int) : cp p.pages (dn b i) ≤ 4800 := by
 have hq := km h.text
 have h1 := wl (l := p.pages) (g := dn b i) (m := 600) fun x hx => by
  obtain ⟨j, hj⟩ := List.getElem?_of_mem hx
  have hp := pageB_true.1 (h.page j x hj)
  unfold dn
  cases decide (fp b x = i)
  ·exact Nat.zero_le _
  ·cases b
   ·have := io hp.found
    show x.found.length ≤ 600
    omega
   ·have := io hp.well
    show x.well.length ≤ 600
    omega
 have := h.np
 have h2 : p.pages.length * 600 ≤ 8 * 600 := Nat.mul_le_mul_right _ this
 omega
theorem uah {p : am} (h : pt p) (b : Bool) (i : Int) : cp p.pages (dx p.text b i) ≤ 4800 := by
 have hq := km h.text
 have h1 := wl (l := p.pages) (g := dx p.text b i) (m := 600) fun x hx => by
  have := pp p.text x
  unfold dx
  cases decide (fp b x = i)
  ·exact Nat.zero_le _
  ·show (ca p.text x).length ≤ 600
   omega
 have := h.np
 have h2 : p.pages.length * 600 ≤ 8 * 600 := Nat.mul_le_mul_right _ this
 omega
theorem xm {p : am} (h : pt p) (b : Bool) (i : Nat) : 0 ≤ ku p b i ∧ ku p b i ≤ 90 := by
 unfold ku
 cases hr : (cz p b)[i]? with
 | none => exact ⟨Int.le_refl _, by show (0 : Int) ≤ 90; omega⟩
 | some r =>
  have hm := List.mem_of_getElem? hr
  have : ff r = true := h.rd r (by
   rw [List.mem_append]
   cases b
   ·exact .inl hm
   ·exact .inr hm)
  unfold ff at this
  rw [Bool.and_eq_true, inB_true, inB_true] at this
  exact this.2
theorem ym {p : am} (h : pt p) (b : Bool) (i : Nat) : 0 ≤ jz p b i ∧ jz p b i ≤ 48000 := by
 have h1 := w8 h b i
 have h2 := xm h b i
 unfold jz
 have h3 : (0 : Int) < 100 - ku p b i := by omega
 refine ⟨Int.ediv_nonneg (by omega) (by omega), ?_⟩
 have h4 : 100 * ((cp p.pages (dn b i) : Nat) : Int) / (100 - ku p b i) ≤ 100 * ((cp p.pages (dn b i) : Nat) : Int) / 10 := by
  refine Int.le_ediv_of_mul_le (by omega) ?_
  have h5 := Int.ediv_mul_le (100 * ((cp p.pages (dn b i) : Nat) : Int)) (show (100 - ku p b i) ≠ 0 by omega)
  have h6 : 0 ≤ 100 * ((cp p.pages (dn b i) : Nat) : Int) / (100 - ku p b i) := Int.ediv_nonneg (by omega) (by omega)
  have h7 : 100 * ((cp p.pages (dn b i) : Nat) : Int) / (100 - ku p b i) * 10 ≤ 100 * ((cp p.pages (dn b i) : Nat) : Int) / (100 - ku p b i) * (100 - ku p b i) := Int.mul_le_mul_of_nonneg_left (by omega) h6
  omega
 omega
/-! ### What is told -/
section
def eg (p : am) (n : Int) : Int := bif decide (em p = 0) then (bif inB n 0 ((p.pages.length : Int) - 1) then 0 else 2) else em p
def jx (p : am) (b : Bool) (n : Int) : Int := bif decide (em p = 0) then (bif inB n 0 (((cz p b).length : Int) - 1) then 0 else 2) else em p
def atE {α : Type} (e : Int) (d v : α) : α := bif decide (e = 0) then v else d
def ng (p : am) (n : Int) : aq := (p.pages[n.toNat]?).getD ⟨0, 0, 0, 0, [], []⟩
def m7 (p : am) (n : Int) : Int := atE (eg p n) 0 (dw p.text (ng p n) : Int)
def kh (p : am) (n : Int) : List PlaceD := atE (eg p n) [] (ca p.text (ng p n))
def kk (p : am) (n : Int) : List PlaceD := atE (eg p n) [] (bf p.text (ng p n))
def mz (p : am) (b : Bool) (n : Int) : Int := atE (jx p b n) 0 (jz p b n.toNat)
def kf (p : am) (n : Int) : Int := bif decide (eg p n = 0) then (bif decide ((bf p.text (ng p n)).length = 0) then 6 else 0) else eg p n
def uz (x : aq) (k : Nat) : co := ⟨((x.found.length * x.well.length / k : Nat) : Int), (((x.found.length * x.well.length + k - 1) / k : Nat) : Int)⟩
def i5 (p : am) (n : Int) : co := atE (kf p n) ⟨0, 0⟩ (uz (ng p n) (bf p.text (ng p n)).length)
end
end Go.AB
namespace Go.AB
open Go Go.RowKit
open Go.AB.Enc (cells)
open Go.PB (ay aj PlaceD bh bj bi bx aq am cv co)
/-- who is found by one reader alone, so far -/
def dz (F W : List PlaceD) (q : PlaceD) : Bool := decide (q ∈ F) != decide (q ∈ W)
theorem xc (F : List PlaceD) (q : PlaceD) : dz F [] q = decide (q ∈ F) := by simp [dz]
theorem pe {l : List PlaceD} (h : l.Pairwise fun a b => gk (da a) (da b) < 0) : l.Nodup := h.imp fun {a b} hab e => by
 rw [o6 (by rfl)] at hab
 subst e
 exact po _ hab
theorem ueh {l : List PlaceD} (h : l.Nodup) {k : Nat} {q : PlaceD} (hq : l[k]? = some q) : q ∉ l.take k := fun hm => by
 obtain ⟨i, hi⟩ := List.getElem?_of_mem hm
 have hik : i < k := by have := (List.getElem?_eq_some_iff.1 hi).1; rw [List.length_take] at this; omega
 rw [List.getElem?_take_of_lt hik] at hi
 obtain ⟨h1, h2⟩ := List.getElem?_eq_some_iff.1 hi
 obtain ⟨h3, h4⟩ := List.getElem?_eq_some_iff.1 hq
 have := (List.pairwise_iff_getElem.1 h) i k h1 h3 hik
 exact this (h2.trans h4.symm)
/-- the place at hand is in the map if the first reader found it -/
theorem ld {F W : List PlaceD} (hW : W.Nodup) {k : Nat} {q : PlaceD} (hq : W[k]? = some q) : dz F (W.take k) q = decide (q ∈ F) := by
 unfold dz
 rw [decide_eq_false (ueh hW hq)]
 cases decide (q ∈ F) <;> rfl
theorem ua9 {F W : List PlaceD} (hW : W.Nodup) {k : Nat} {q : PlaceD} (hq : W[k]? = some q) (x : PlaceD) : dz F (W.take (k + 1)) x = bif decide (x = q) then !decide (q ∈ F) else dz F (W.take k) x := by
 have hm : decide (x ∈ W.take (k + 1)) = (decide (x ∈ W.take k) || decide (x = q)) := by
  rw [List.take_add_one, hq, Option.toList_some, Bool.eq_iff_iff]
  simp
 by_cases e : x = q
 ·subst e
  unfold dz
  rw [hm, decide_eq_true (rfl : x = x), Bool.or_true, cond_true]
  cases decide (x ∈ F) <;> rfl
 ·unfold dz
  rw [hm, decide_eq_false e, Bool.or_false, cond_false]
/-- what both found so far -/
def jm (F W : List PlaceD) (k : Nat) : List PlaceD := (W.take k).filter fun q => decide (q ∈ F)
theorem qz {F W : List PlaceD} {k : Nat} {q : PlaceD} (hq : W[k]? = some q) : jm F W (k + 1) = jm F W k ++ bif decide (q ∈ F) then [q] else [] := by
 unfold jm
 rw [List.take_add_one, hq, Option.toList_some, List.filter_append]
 cases h : decide (q ∈ F) <;> simp [h]
theorem ra (F W : List PlaceD) (k : Nat) : (jm F W k).length ≤ W.length := by
 unfold jm
 have := List.length_filter_le (fun q => decide (q ∈ F)) (W.take k)
 rw [List.length_take] at this
 omega
theorem yn {p : am} {last : Int} {x : aq} (h : mh p last x) : jm x.found x.well x.well.length = bf p.text x := by
 have hs : (jm x.found x.well x.well.length).Pairwise fun a b => gk (da a) (da b) < 0 := by
  unfold jm
  rw [List.take_length]
  exact (o5 h.well).filter _
 refine tq hs (vf _) fun q => ?_
 unfold jm
 rw [List.take_length, List.mem_filter, decide_eq_true_eq]
 show _ ↔ q ∈ (dh p.text).filter _
 rw [List.mem_filter, Bool.and_eq_true, decide_eq_true_eq, decide_eq_true_eq, allQ_mem]
 exact ⟨fun ⟨h1, h2⟩ => ⟨(nv h.well h1).1, h2, h1⟩, fun ⟨_, h2, h3⟩ => ⟨h3, h2⟩⟩
/-- both's places, and those of one alone in any order, put in order: all that are found -/
theorem rg {p : am} {last : Int} {x : aq} (h : mh p last x) {ks s : List PlaceD} (hn : ks.Nodup) (hk : ∀ q, q ∈ ks ↔ dz x.found x.well q = true) (hp : s.Perm (bf p.text x ++ ks)) (hs : s.Pairwise fun a b => ¬ gk (da b) (da a) < 0) : s = ca p.text x := by
 have hmb : ∀ q, q ∈ bf p.text x ↔ q ∈ x.found ∧ q ∈ x.well := fun q => by
  show q ∈ (dh p.text).filter _ ↔ _
  rw [List.mem_filter, Bool.and_eq_true, decide_eq_true_eq, decide_eq_true_eq, allQ_mem]
  exact ⟨fun h => h.2, fun h2 => ⟨(nv h.well h2.2).1, h2⟩⟩
 have hko : ∀ q, dz x.found x.well q = true ↔ (q ∈ x.found ∧ q ∉ x.well) ∨ (q ∉ x.found ∧ q ∈ x.well) := fun q => by
  unfold dz
  by_cases h1 : q ∈ x.found <;> by_cases h2 : q ∈ x.well <;> simp [h1, h2]
 have hnd : (bf p.text x ++ ks).Nodup := by
  rw [List.nodup_append]
  refine ⟨pe (vf _), hn, fun a ha b hb e => ?_⟩
  subst e
  have h1 := (hmb a).1 ha
  rcases (hko a).1 ((hk a).1 hb) with h2 | h2
  ·exact h2.2 h1.2
  ·exact h2.1 h1.1
 have hsn : s.Nodup := hp.nodup_iff.2 hnd
 have hs2 : s.Pairwise fun a b => gk (da a) (da b) < 0 := by
  have := List.Pairwise.and hs hsn
  refine this.imp fun {a b} hab => ?_
  rw [o6 (by rfl)] at hab ⊢
  refine Classical.byContradiction fun hno => hab.2 ?_
  exact uhh (xq (by rfl) hno hab.1)
 refine tq hs2 (vf _) fun q => ?_
 rw [hp.mem_iff, List.mem_append, hmb, hk, hko]
 show _ ↔ q ∈ (dh p.text).filter _
 rw [List.mem_filter, Bool.or_eq_true, decide_eq_true_eq, decide_eq_true_eq, allQ_mem]
 constructor
 ·rintro (⟨h1, h2⟩ | ⟨h1, _⟩ | ⟨_, h2⟩)
  ·exact ⟨(nv h.found h1).1, .inl h1⟩
  ·exact ⟨(nv h.found h1).1, .inl h1⟩
  ·exact ⟨(nv h.well h2).1, .inr h2⟩
 ·rintro ⟨_, h1 | h1⟩
  ·by_cases h2 : q ∈ x.well
   ·exact .inl ⟨h1, h2⟩
   ·exact .inr (.inl ⟨h1, h2⟩)
  ·by_cases h2 : q ∈ x.found
   ·exact .inl ⟨h2, h1⟩
   ·exact .inr (.inr ⟨h2, h1⟩)
/-! ### The words of a page, line by line -/
def dr (t : aj) (x : aq) (l : List PlaceD) : Nat := (l.filter (el t x)).length
theorem pv (t : aj) (x : aq) {k n : Nat} {c : ay} {l : List ByteArray} (hn : c.lines[n]? = some l) : dr t x (ec t k c.lines (n + 1)) = dr t x (ec t k c.lines n) + bif inB ((fh t k : Int) + (n : Int)) x.fr x.to then l.length else 0 := by
 have e : ec t k c.lines (n + 1) = ec t k c.lines n ++ (jr k n l).map (·.1) := by
  unfold ec
  rw [yk k hn, List.map_append, List.append_assoc]
 unfold dr
 rw [e, List.filter_append, List.length_append]
 congr 1
 have hall : ∀ q ∈ (jr k n l).map (·.1), el t x q = inB ((fh t k : Int) + (n : Int)) x.fr x.to := fun q hq => by
  obtain ⟨y, hy, rfl⟩ := List.mem_map.1 hq
  obtain ⟨w, hw, rfl⟩ := List.mem_mapIdx.1 hy
  show inB (nk t ⟨(k : Int), (n : Int), (w : Int)⟩) x.fr x.to = _
  unfold nk
  dsimp only
  rw [Int.toNat_natCast, Int.add_comm]
 have hlen : ((jr k n l).map (·.1)).length = l.length := by rw [List.length_map]; unfold jr; rw [List.length_mapIdx]
 cases hb : inB ((fh t k : Int) + (n : Int)) x.fr x.to
 ·rw [List.filter_eq_nil_iff.2 fun q hq => by rw [hall q hq, hb]; simp]; rfl
 ·rw [List.filter_eq_self.2 fun q hq => by rw [hall q hq, hb], hlen]; rfl
theorem wc (t : aj) (x : aq) : dr t x (dh t) = dw t x := rfl
end Go.AB
namespace Go.AB
open Go Go.RowKit
open Go.AB.Enc (cells)
open Go.PB (ay aj PlaceD bh bj bi bx aq am cv co)
/-! ### Readers who miss less -/
end Go.AB
namespace Go.AB
open Go Go.RowKit
open Go.AB.Enc (cells)
open Go.PB (ay aj PlaceD bh bj bi bx aq am cv co)
end Go.AB
namespace Go.AB
open Go Go.RowKit
open Go.AB.Enc (cells)
open Go.PB (ay aj PlaceD bh bj bi bx aq am cv co)
end Go.AB
namespace Go.AB
open Go Go.RowKit
open Go.AB.Enc (cells)
open Go.PB (ay aj PlaceD bh bj bi bx aq am cv co)
end Go.AB
namespace Go.AB
open Go Go.RowKit
open Go.AB.Enc (cells)
open Go.PB (ay aj PlaceD bh bj bi bx aq am cv co)
section
variable {N : Net} {R C : Nat → Int}
end
end Go.AB
namespace Go.PB
structure dq where
 readers : List Int
 pages : List Int
 read : List (List Int)
/-- the reference's: readers and pages alone -/
structure dp where
 readers : List Int
 pages : List Int
end Go.PB
namespace Go.AB
open Go Go.RowKit
open Go.AB.Enc (cells)
open Go.PB (ay aj PlaceD bh bj bi bx aq am cv co dq dp)
end Go.AB
namespace Go.AB
open Go Go.RowKit
open Go.AB.Enc (cells)
section
variable {P : Program} {o : Oper} {st : St} {K : St → Prop}
end
end Go.AB
namespace Go.AB
open Go Go.RowKit Go.Shelf Go.Proofs
open Go.AB.Enc (cells)
section
variable {P : Program} {o : Oper} {st : St} {K : St → Prop}
theorem ugd {E : Env} {w : World} {v : Value} {n ver len : Nat} (hp : R E w (.own n ver len) v) : ∃ a cap, v = .slice a len cap ∧ n < E.nx ∧ len ≤ cap ∧ cap ≤ maxLen ∧ ∀ ver' wv val, E.T n = some (ver', wv, val) → ver ≤ ver' ∧ (ver = ver' → ∃ m, len ≤ m ∧ val = .slice a m cap) := by
 cases hp with
 | own h1 h2 h3 h4 => exact ⟨_, _, rfl, h1, h2, h3, h4⟩
/-- append of nothing onto an own slice. -/
theorem ugy {t e : TypeId} {sz bytes n ver m : Nat} [AppT P t e sz bytes] {s x : Operand} {tk : Tok} (ho : o.op = .call { callee := .builtin .append, args := #[s, x], argTypes := #[t, t] }) (hs : evC st s = .own n ver m) (hx : evC st x = .list [] tk) : NStep P o st (.own n ver m) := fun E w a hsim => by
 obtain ⟨ht, i, z, hie, hz, h1, h2, h3⟩ := AppT.spec (P := P) (t := t) (e := e) (sz := sz) (bytes := bytes)
 have hown := hs ▸ hsim.ev s
 obtain ⟨ad, cap, e1, q1, q2, q3, q4⟩ := ugd hown
 obtain ⟨ao, c, _, _, e3, _⟩ := (hx ▸ hsim.ev x).list_inv
 refine ⟨a.eval s, hown, fun w' => ?_⟩
 have hrun := ru (P := P) w' t o.type e i ht hie ad ao m cap c q2
 simp only [execOp, ho, resolve, invoke, builtin, Sem.run_bind, Sem.run_pure, Result.andThen_ok, List.map_toArray, List.map_cons, List.map_nil, e1, e3]
 rw [List.length_nil] at *
 rw [hrun]; rfl
/-- append of data onto an own slice. -/
theorem ki {α : Type} [Enc α] {t e : TypeId} {bytes n ver wv : Nat} [AppT P t e (Enc.n α) bytes] {s x : Operand} {tk : Tok} {rows : List (List C)} {xs : List α} {m : Nat} {cs : List C} (ys : List α) (ho : o.op = .call { callee := .builtin .append, args := #[s, x], argTypes := #[t, t] }) (hs : evC st s = .own n ver m) (hG : st.G n = some (.arr ver wv e (Enc.n α) m cs)) (hc : cs = ci xs) (hm : m = xs.length) (hx : evC st x = .list rows tk) (hy : rows = ys.map cells) (hb : (xs.length + ys.length) * bytes ≤ 140737488355328) (hmax : xs.length + ys.length ≤ 9223372036854775807)
  (h : ∀ v : Nat, K (St.put { st with G := ai st.G n (.arr v wv e (Enc.n α) (xs ++ ys).length (ci (xs ++ ys))) } o.dst (.own n v (xs ++ ys).length))) : EStep P o st K := by
 subst hc; subst hm; subst hy
 by_cases h0 : ys = []
 ·subst h0
  have h1 := h ver
  simp only [List.append_nil] at h1
  have h2 : ai st.G n (.arr ver wv e (Enc.n α) xs.length (ci xs)) = st.G := by
   funext k
   simp only [ai]
   split
   ·rename_i e; rw [e, hG]
   ·rfl
  rw [h2] at h1
  exact SStep.e' (NStep.s (D := fun _ => True) (ugy ho hs hx)) h1
 ·refine uib ho hs hG hx (kx ys) (by simpa using hb) (by simpa using hmax) (by simpa using h0) ?_
  have h1 := h (ver + 1)
  rw [ucf] at h1
  simpa [ci] using h1
end
end Go.AB
namespace Go.AB
open Go Go.RowKit
open Go.AB.Enc (cells)
open Go.PB (ay aj PlaceD bh bj bi bx aq am cv co dq dp)
/-- the first of some numbers that is not nought -/
def orN (xs : List Int) : Int := (xs.find? fun x => !decide (x = 0)).getD 0
theorem ugf {xs : List Int} {k : Nat} {x : Int} (hx : xs[k]? = some x) (hne : x ≠ 0) (h : ∀ y ∈ xs.take k, y = 0) : orN xs = x := by
 unfold orN
 rw [List.find?_eq_some_iff_append.2 ⟨by simpa using hne, xs.take k, xs.drop (k + 1), ?_, fun y hy => by simp [h y hy]⟩]
 ·rfl
 obtain ⟨h1, h2⟩ := List.getElem?_eq_some_iff.1 hx
 rw [← h2, ← List.drop_eq_getElem_cons h1, List.take_append_drop]
theorem ugh {xs : List Int} (h : ∀ y ∈ xs, y = 0) : orN xs = 0 := by
 unfold orN
 rw [List.find?_eq_none.2 fun y hy => by simp [h y hy]]
 rfl
theorem ug1 {α : Type} {l : List α} {k : Nat} {x : α} {p : α → Prop} (hx : l[k]? = some x) (hp : p x) (h : ∀ y ∈ l.take k, p y) : ∀ y ∈ l.take (k + 1), p y := fun y hy => by
 rw [List.take_add_one, hx] at hy
 simp only [Option.toList_some, List.mem_append, List.mem_singleton] at hy
 rcases hy with hy | rfl
 ·exact h y hy
 exact hp
def ig (a b : PlaceD) : Int := gk (da a) (da b)
theorem ugg (a b : PlaceD) : orN [ip a.ch b.ch, ip a.ln b.ln, ip a.wd b.wd] = ig a b := by
 unfold orN ig da
 simp only [gk]
 by_cases h1 : ip a.ch b.ch = 0
 ·by_cases h2 : ip a.ln b.ln = 0
  ·by_cases h3 : ip a.wd b.wd = 0 <;> simp [h1, h2, h3]
  simp [h1, h2]
 simp [h1]
def j6 (t : aj) (k : Nat) : List Int := (List.range k).map fun i => (fh t i : Int)
theorem tn (t : aj) (k : Nat) : (j6 t k).length = k := by simp [j6]
theorem rr {t : aj} {k i : Nat} (h : i < k) : (j6 t k)[i]? = some (fh t i : Int) := by simp [j6, h]
theorem ueq (t : aj) (k : Nat) : j6 t (k + 1) = j6 t k ++ [(fh t k : Int)] := by
 unfold j6
 rw [List.range_succ, List.map_append]; rfl
theorem og {t : aj} (ht : dl t = true) (k : Nat) (hk : k ≤ t.length) : fh t k ≤ 60 := by
 obtain ⟨h1, h2, h3⟩ := jo ht
 have key : ∀ k, k ≤ t.length → fh t k ≤ 10 * k := by
  intro k
  induction k with
  | zero => intro _; rw [zl]; exact Nat.zero_le _
  | succ k ih =>
   intro hk
   have hc : t[k]? = some t[k] := List.getElem?_eq_getElem (by omega)
   rw [rt hc]
   have := ih (by omega)
   have := (h3 _ (ez hc)).2.1
   omega
 have := key k hk
 omega
end Go.AB
namespace Go.Proofs.YtgffhbbcpgdjjaaDoor
set_option maxRecDepth 10000
open Go.RowKit Go.AB
open Go.AB.Enc (cells)
open Go.PB (ay aj PlaceD bh bj bi bx aq am cv co dq dp)
theorem uf6 (xs : List Int) : Pure Tryd.prog 81 [lst xs] (.v (.int .i64 (orN xs))) := by
 refine dm Tryd.func81 rfl (fun m => .v) fun G nx => ?_
 simp only [Tryd.ntmps81, List.length_cons, List.length_nil, Nat.reduceAdd, Nat.reduceSub]
 refine ct fun hlt => ?_
 dsimp only at hlt
 refine jn 0 (fun hf => ?_)
 replace hf := (fit_lst.1 hf).1
 refine yS fun _ K1 => ?_
 refine yR ?_
 refine yA rfl rfl ?_
 refine yN ?_
 dsimp only [St.put]
 refine K1 _ ?_
 refine yS fun _ K2 => ?_
 refine yR ?_
 refine yA rfl rfl ?_
 refine yN ?_
 dsimp only [St.put]
 refine K2 _ ?_
 refine yS fun _ K3 => ?_
 refine yS fun _ K4 => ?_
 refine yR ?_
 refine yM rfl rfl ?_
 refine aa rfl (bg rfl rfl (List.length_map _)) ?_
 refine yM rfl rfl ?_
 refine yN ?_
 dsimp only [St.put]
 refine K4 _ ?_
 refine az ?_
 refine cj 9 ?_
 refine zQ ?_
 refine db (G) zX ?_
 dsimp only
 refine c7 (X := Nat) (fun k => k ≤ xs.length ∧ ∀ y ∈ xs.take k, y = 0) (fun k => xs.length - k) (fun k => [(4, .any), (5, .any), (8, .v (.int .i64 (k : Int)))]) (fun k G' => G') 0 rfl ?_ ?_ (fun _ _ h => h) ?_ ?_ ?_
 ·exact ⟨by simp, by simp⟩
 ·exact zF
 ·rintro k hI
  exact zL
 ·exact fun _ _ _ _ h => .inl h
 rintro k hI
 dsimp only at hI ⊢
 refine yS fun _ K5 => ?_
 refine yR ?_
 refine aa rfl (cn rfl rfl rfl) ?_
 refine yN ?_
 dsimp only [St.put]
 refine K5 _ ?_
 refine yS fun _ K6 => ?_
 refine ak rfl (fun hc => ?_) (fun hc => ?_)
 ·replace hc := of_decide_eq_true hc
  obtain ⟨x, hx⟩ : ∃ x, xs[k]? = some x := cx (by omega)
  refine av ?_
  refine K6 _ ?_
  refine yS fun _ K7 => ?_
  refine az ?_
  refine yS fun _ K8 => ?_
  refine yR ?_
  refine aa rfl (bl rfl rfl rfl rfl (bn (by assumption)) (Enc.len _)) ?_
  refine yL rfl rfl rfl ?_
  refine yA rfl rfl ?_
  refine yN ?_
  dsimp only [St.put]
  refine K8 _ ?_
  refine yS fun _ K9 => ?_
  refine yR ?_
  refine yM rfl rfl ?_
  refine yM rfl rfl ?_
  refine aa rfl (fj rfl rfl rfl) ?_
  refine yN ?_
  dsimp only [St.put]
  refine K9 _ ?_
  refine ak rfl (fun hc => ?_) (fun hc => ?_)
  ·replace hc := ia hc
   refine yS fun _ K10 => ?_
   refine yR ?_
   refine yM rfl rfl ?_
   refine yA rfl rfl ?_
   refine yN ?_
   dsimp only [St.put]
   refine K10 _ ?_
   refine ax ?_
   refine bp rfl (by constructor) zN zS ?_
   exact vi (ugf hx hc hI.2).symm
  replace hc := gw hc
  refine av ?_
  refine K7 _ ?_
  refine yR ?_
  refine aa rfl (br rfl rfl rfl (by omega)) ?_
  refine yM rfl rfl ?_
  refine yN ?_
  dsimp only [St.put]
  exact ⟨k + 1, by omega, ⟨by omega, ug1 hx hc hI.2⟩, ⟨⟨rfl, rfl⟩, zF, zB, zN, zX⟩⟩
 try replace hc := of_decide_eq_false hc
 refine cr ?_
 refine K3 _ ?_
 refine yS fun _ K11 => ?_
 refine yR ?_
 refine yM rfl rfl ?_
 refine yA rfl rfl ?_
 refine yN ?_
 dsimp only [St.put]
 refine K11 _ ?_
 refine ax ?_
 refine bp rfl (by constructor) zN zS ?_
 exact vi (by
  rw [ugh]
  have := hI.2
  rwa [f8 (by omega)] at this)
theorem uf7 (n lo hi : Int) : Pure Tryd.prog 75 [.v (.int .i64 n), .elem [.v (.int .i64 lo)], .elem [.v (.int .i64 hi)]] (.v (.bool (lv n lo hi))) := by
 refine dm Tryd.func75 rfl (fun m => .v) fun G nx => ?_
 simp only [Tryd.ntmps75, List.length_cons, List.length_nil, Nat.reduceAdd, Nat.reduceSub]
 refine ct fun hlt => ?_
 dsimp only at hlt
 refine yS fun _ K1 => ?_
 refine yR ?_
 refine yA rfl rfl ?_
 refine yN ?_
 dsimp only [St.put]
 refine K1 _ ?_
 refine yS fun _ K2 => ?_
 refine yR ?_
 refine yM rfl rfl ?_
 refine yL rfl rfl rfl ?_
 refine aa rfl (cn rfl rfl rfl) ?_
 refine ep (fun hs => ?_) (fun hs => ?_)
 ·try replace hs := of_decide_eq_true hs
  refine yM rfl rfl ?_
  refine yK rfl ?_
  refine yK rfl ?_
  refine yK rfl ?_
  refine aa rfl (ck rfl rfl (by constructor)) ?_
  refine yA rfl rfl ?_
  refine yN ?_
  dsimp only [St.put]
  refine K2 _ ?_
  refine ax ?_
  refine bp rfl (by constructor) zN zS ?_
  exact vb (by simp [lv, hs]; try omega)
 try replace hs := of_decide_eq_false hs
 refine yM rfl rfl ?_
 refine yM rfl rfl ?_
 refine yL rfl rfl rfl ?_
 refine aa rfl (gq rfl rfl rfl) ?_
 refine aa rfl (bz rfl rfl (by constructor)) ?_
 refine yA rfl rfl ?_
 refine yN ?_
 dsimp only [St.put]
 refine K2 _ ?_
 refine ax ?_
 refine bp rfl (by constructor) zN zS ?_
 exact vb (by simp [lv, hs]; try omega)
theorem jh (lo hi : Int) (xs : List Int) : Pure Tryd.prog 42 [.v (.int .i64 lo), .v (.int .i64 hi), lst xs] (.v (.bool (uy lo hi xs))) := by
 refine dm Tryd.func42 rfl (fun m => .v) fun G nx => ?_
 simp only [Tryd.ntmps42, List.length_cons, List.length_nil, Nat.reduceAdd, Nat.reduceSub]
 refine ct fun hlt => ?_
 dsimp only at hlt
 refine yS fun _ K1 => ?_
 refine yR ?_
 try dsimp only [St.put]
 refine yB rfl rfl rfl ?_
 try dsimp only [St.put]
 refine yB rfl rfl rfl ?_
 refine yA rfl rfl ?_
 refine yN ?_
 dsimp only [St.put]
 refine K1 _ ?_
 refine yS fun _ K2 => ?_
 refine yR ?_
 refine yM rfl rfl ?_
 refine aa rfl (ubm rfl rfl) ?_
 try dsimp only [St.put]
 refine af rfl (ba rfl rfl rfl (udk xs (fun n => lv n lo hi) _ _ fun x _ => uf7 x lo hi) ?_)
 refine aa rfl (dv rfl rfl) ?_
 refine yA rfl rfl ?_
 refine yN ?_
 dsimp only [St.put]
 refine K2 _ ?_
 refine ax ?_
 refine bp rfl (by constructor) zN zS ?_
 rfl
theorem ov (a b : PlaceD) : Pure Tryd.prog 69 [val a, val b] (.v (.int .i64 (ig a b))) := by
 refine dm Tryd.func69 rfl (fun m => .v) fun G nx => ?_
 simp only [Tryd.ntmps69, List.length_cons, List.length_nil, Nat.reduceAdd, Nat.reduceSub]
 refine ct fun hlt => ?_
 dsimp only at hlt
 refine yS fun _ K1 => ?_
 refine yR ?_
 try dsimp only [St.put]
 refine yB rfl rfl rfl ?_
 try dsimp only [St.put]
 refine yB rfl rfl rfl ?_
 refine yA rfl rfl ?_
 refine yN ?_
 dsimp only [St.put]
 refine K1 _ ?_
 refine yS fun _ K2 => ?_
 refine f4 [(0, none), (1, none), (2, none), (3, none), (5, none), (6, none), (7, none), (8, none), (10, none), (11, none), (12, none), (13, none), (4, none), (9, none), (14, none), (15, none), (16, none), (17, none)] (fun i => [14, 15, 16].contains i) (fun i => [4, 9, 14, 15, 16].contains i) (fun i => [0, 2, 5, 7, 10, 12, 17].contains i) [] (by kernel_rfl) (by kernel_rfl) ?_
 refine ae rfl rfl rfl rfl (cb rfl rfl rfl) ?_
 try dsimp only [St.put]
 refine aw rfl rfl rfl rfl (bv rfl rfl) ?_
 refine ae rfl rfl rfl rfl (cb rfl rfl rfl) ?_
 try dsimp only [St.put]
 refine aw rfl rfl rfl rfl (bv rfl rfl) ?_
 refine ae rfl rfl rfl rfl (cb rfl rfl rfl) ?_
 try dsimp only [St.put]
 refine aw rfl rfl rfl rfl (bv rfl rfl) ?_
 refine ae rfl rfl rfl rfl (cb rfl rfl rfl) ?_
 try dsimp only [St.put]
 refine aw rfl rfl rfl rfl (bv rfl rfl) ?_
 refine ae rfl rfl rfl rfl (cb rfl rfl rfl) ?_
 try dsimp only [St.put]
 refine aw rfl rfl rfl rfl (bv rfl rfl) ?_
 refine ae rfl rfl rfl rfl (cb rfl rfl rfl) ?_
 try dsimp only [St.put]
 refine aw rfl rfl rfl rfl (bv rfl rfl) ?_
 refine ij ?_
 try dsimp only [St.put]
 refine g8 rfl rfl rfl (ba rfl rfl rfl (yh _ _) ⟨zD, ?_⟩)
 try dsimp only [St.put]
 refine g8 rfl rfl rfl (ba rfl rfl rfl (yh _ _) ⟨zD, ?_⟩)
 try dsimp only [St.put]
 refine gt rfl rfl rfl rfl (ba rfl rfl rfl (yh _ _) ?_)
 try dsimp only [St.put]
 refine gt rfl rfl rfl rfl (ef rfl rfl rfl (by decide) (by decide) zR (by decide) ?_)
 try dsimp only [St.put]
 refine gt rfl rfl rfl rfl (ba rfl rfl rfl (uf6 [ip a.ch b.ch, ip a.ln b.ln, ip a.wd b.wd]) ?_)
 refine di rfl rfl rfl rfl (gn rfl (by constructor)) ?_
 refine ii ?_
 dsimp only [St.put]
 refine K2 _ ?_
 refine ax ?_
 refine bp rfl (by constructor) zN zS ?_
 exact vi (ugg a b)
theorem ua0 (t : aj) (q : PlaceD) (ht : dl t = true) : Pure Tryd.prog 68 [eu t, val q] (.v (.bool (ey t q))) := by
 refine dm Tryd.func68 rfl (fun m => .v) fun G nx => ?_
 simp only [Tryd.ntmps68, List.length_cons, List.length_nil, Nat.reduceAdd, Nat.reduceSub]
 refine ct fun hlt => ?_
 dsimp only at hlt
 obtain ⟨hl1, hl2, hl3⟩ := jo ht
 refine yS fun _ K1 => ?_
 refine yR ?_
 try dsimp only [St.put]
 refine yB rfl rfl rfl ?_
 try dsimp only [St.put]
 refine yB rfl rfl rfl ?_
 refine yA rfl rfl ?_
 refine yN ?_
 dsimp only [St.put]
 refine K1 _ ?_
 refine yS fun _ K2 => ?_
 refine cj 5 ?_
 refine zQ ?_
 refine ix (X := Bool) (fun b => b = !(gp t (q.ch, q.ln)).isSome) (fun b => [(29, .v (.bool b))]) (fun b G' => G') rfl ?_ (fun _ _ _ _ h => .inl h) ?_ ?_
 ·rintro b hI
  exact zL
 ·refine o8 [(0, none), (1, none), (2, none), (3, none), (4, none), (5, none)] (fun _ => false) (fun i => [0, 2, 3, 4].contains i) 19 (rl [6, 19]) (by kernel_rfl) (by kernel_rfl) ?_
  refine ae rfl rfl rfl rfl (cb rfl rfl rfl) ?_
  try dsimp only [St.put]
  refine aw rfl rfl rfl rfl (bv rfl rfl) ?_
  refine ae rfl rfl rfl rfl (bg rfl rfl (List.length_map _)) ?_
  refine ae rfl rfl rfl rfl (gm rfl rfl rfl (by omega)) ?_
  refine ae rfl rfl rfl rfl (cb rfl rfl rfl) ?_
  try dsimp only [St.put]
  refine aw rfl rfl rfl rfl (bv rfl rfl) ?_
  refine bq ?_
  refine dc [6] (by kernel_rfl) (by simp) ?_
  refine dg ?_ ?_
  ·try dsimp only [St.put]
   refine gu rfl rfl rfl (ef rfl rfl rfl (by decide) (by decide) zR (by decide) ?_)
   refine dc [7] (by kernel_rfl) (by simp) ?_
   refine dg ?_ ?_
   ·try dsimp only [St.put]
    refine gu rfl rfl rfl (ba rfl rfl rfl (jh _ _ [_]) ?_)
    refine d8 [(8, none), (9, none), (10, none), (11, none), (12, none), (13, none), (14, none), (15, none), (16, none), (17, none), (18, none), (19, none), (20, none)] (fun i => [8, 9, 10, 12, 14, 15, 17, 18, 19].contains i) 4 (rl [21, 4]) (by kernel_rfl) ?_
    refine ae rfl rfl rfl rfl (dv rfl rfl) ?_
    refine xM rfl rfl rfl rfl rfl ?_
    refine il (fun hs => ?_) (fun hs => ?_)
    ·have h8 : inB q.ch 0 ((t.length : Int) - 1) = false := by rw [er] at hs; simpa using hs
     refine ah rfl rfl rfl ?_
     refine ah rfl rfl rfl ?_
     refine ah rfl rfl rfl ?_
     refine ah rfl rfl rfl ?_
     refine ah rfl rfl rfl ?_
     refine ah rfl rfl rfl ?_
     refine ah rfl rfl rfl ?_
     refine ah rfl rfl rfl ?_
     refine ah rfl rfl rfl ?_
     refine ah rfl rfl rfl ?_
     refine ah rfl rfl rfl ?_
     refine bq ?_
     refine dc [21] (by kernel_rfl) (by simp) ?_
     refine dg ?_ ?_
     ·refine fa rfl rfl rfl ?_
      refine dc [22] (by kernel_rfl) (by simp) ?_
      refine dg ?_ ?_
      ·refine fa rfl rfl rfl ?_
       refine d8 [(23, none), (24, none)] (fun i => [23, 24].contains i) 0 (rl [25]) (by kernel_rfl) ?_
       refine ah rfl rfl rfl ?_
       refine ae rfl rfl rfl rfl (ck rfl rfl (by constructor)) ?_
       refine bq ?_
       dsimp only [St.put]
       refine ge (by kernel_rfl) ?_
       refine ⟨_, ?_, ⟨⟨rfl, rfl⟩, zF, zB, zN, zX⟩⟩
       rw [th]
       (simp [h8]; done)
      exact dd
     exact dd
    have h8 : inB q.ch 0 ((t.length : Int) - 1) = true := by rw [er] at hs; simpa using hs
    have hn1' := h8
    simp only [inB_true] at hn1'
    obtain ⟨c, hcx⟩ : ∃ c, t[q.ch.toNat]? = some c := cx (by omega)
    have hnl : kr t q.ch = c.lines.length := by simp [kr, hcx]
    have hll := (hl3 c (ez hcx)).2.1
    have hch : q.ch = ((q.ch.toNat : Nat) : Int) := by omega
    refine ae rfl rfl rfl rfl (cb rfl rfl rfl) ?_
    try dsimp only [St.put]
    refine aw rfl rfl rfl rfl (bv rfl rfl) ?_
    refine ae rfl rfl rfl rfl (cb rfl rfl rfl) ?_
    try dsimp only [St.put]
    refine aw rfl rfl rfl rfl (bv rfl rfl) ?_
    try dsimp only [St.put]
    refine ae rfl rfl rfl rfl (bl rfl rfl rfl (by omega) (bn (by assumption)) (Enc.len _)) ?_
    refine ae rfl rfl rfl rfl (cb rfl rfl rfl) ?_
    try dsimp only [St.put]
    refine aw rfl rfl rfl rfl (bv rfl rfl) ?_
    refine ae rfl rfl rfl rfl (bg rfl rfl (List.length_map _)) ?_
    refine ae rfl rfl rfl rfl (gm rfl rfl rfl (by omega)) ?_
    refine ae rfl rfl rfl rfl (cb rfl rfl rfl) ?_
    try dsimp only [St.put]
    refine aw rfl rfl rfl rfl (bv rfl rfl) ?_
    refine bq ?_
    refine dc [21] (by kernel_rfl) (by simp) ?_
    refine dg ?_ ?_
    ·try dsimp only [St.put]
     refine gu rfl rfl rfl (ef rfl rfl rfl (by decide) (by decide) zR (by decide) ?_)
     refine dc [22] (by kernel_rfl) (by simp) ?_
     refine dg ?_ ?_
     ·try dsimp only [St.put]
      refine gu rfl rfl rfl (ba rfl rfl rfl (jh _ _ [_]) ?_)
      refine d8 [(23, none), (24, none)] (fun i => [23, 24].contains i) 0 (rl [25]) (by kernel_rfl) ?_
      refine ae rfl rfl rfl rfl (dv rfl rfl) ?_
      refine ae rfl rfl rfl rfl (bz rfl rfl (by constructor)) ?_
      refine bq ?_
      dsimp only [St.put]
      refine ge (by kernel_rfl) ?_
      refine ⟨_, ?_, ⟨⟨rfl, rfl⟩, zF, zB, zN, zX⟩⟩
      rw [th]
      (simp [h8, hnl, er]; done)
     exact dd
    exact dd
   exact dd
  exact dd
 rintro b hst
 dsimp only at hst ⊢
 refine ak rfl (fun hc => ?_) (fun hc => ?_)
 ·have hw : gp t (q.ch, q.ln) = none := by rw [hc] at hst; simpa using hst.symm
  refine yS fun _ K4 => ?_
  refine yR ?_
  refine yA rfl rfl ?_
  refine yN ?_
  dsimp only [St.put]
  refine K4 _ ?_
  refine ax ?_
  refine bp rfl (by constructor) zN zS ?_
  exact vb (by unfold ey; rw [hw])
 have hw0 : (gp t (q.ch, q.ln)).isSome = true := by rw [hc] at hst; simpa using hst.symm
 obtain ⟨l, hw⟩ := Option.isSome_iff_exists.1 hw0
 obtain ⟨k, n, c, hkn, hk, hn⟩ := rn hw
 have hch : q.ch = ((k : Nat) : Int) := congrArg Prod.fst hkn
 have hln : q.ln = ((n : Nat) : Int) := congrArg Prod.snd hkn
 have hwl := tg ht hw
 refine av ?_
 refine K2 _ ?_
 refine yS fun _ K5 => ?_
 refine f4 [(0, none), (1, none), (2, none), (3, none), (4, none), (5, none), (6, none), (7, none), (8, none), (9, none), (10, none), (11, none), (12, none), (13, none), (14, none), (15, none), (16, none), (17, none)] (fun i => [16].contains i) (fun i => [15, 16].contains i) (fun i => [0, 2, 4, 5, 7, 9, 11, 12, 13, 17].contains i) [] (by kernel_rfl) (by kernel_rfl) ?_
 refine ae rfl rfl rfl rfl (cb rfl rfl rfl) ?_
 try dsimp only [St.put]
 refine aw rfl rfl rfl rfl (bv rfl rfl) ?_
 refine ae rfl rfl rfl rfl (cb rfl rfl rfl) ?_
 try dsimp only [St.put]
 refine aw rfl rfl rfl rfl (bv rfl rfl) ?_
 try dsimp only [St.put]
 refine ae rfl rfl rfl rfl (bl rfl rfl rfl (by omega) (bn (by assumption)) (Enc.len _)) ?_
 refine ae rfl rfl rfl rfl (cb rfl rfl rfl) ?_
 try dsimp only [St.put]
 refine aw rfl rfl rfl rfl (bv rfl rfl) ?_
 refine ae rfl rfl rfl rfl (cb rfl rfl rfl) ?_
 try dsimp only [St.put]
 refine aw rfl rfl rfl rfl (bv rfl rfl) ?_
 try dsimp only [St.put]
 refine ae rfl rfl rfl rfl (bl rfl rfl rfl (by omega) (bn (by assumption)) (Enc.len _)) ?_
 try dsimp only [St.put]
 refine aw rfl rfl rfl rfl (bv rfl rfl) ?_
 refine ae rfl rfl rfl rfl (bg rfl rfl (List.length_map _)) ?_
 refine ae rfl rfl rfl rfl (gm rfl rfl rfl (by omega)) ?_
 refine ae rfl rfl rfl rfl (cb rfl rfl rfl) ?_
 try dsimp only [St.put]
 refine aw rfl rfl rfl rfl (bv rfl rfl) ?_
 refine ij ?_
 try dsimp only [St.put]
 refine g8 rfl rfl rfl (ef rfl rfl rfl (by decide) (by decide) zR (by decide) ⟨zD, ?_⟩)
 try dsimp only [St.put]
 refine gt rfl rfl rfl rfl (ba rfl rfl rfl (jh _ _ [_]) ?_)
 refine di rfl rfl rfl rfl (gn rfl (by constructor)) ?_
 refine ii ?_
 dsimp only [St.put]
 refine K5 _ ?_
 refine ax ?_
 refine bp rfl (by constructor) zN zS ?_
 exact vb (by unfold ey; rw [hw, er])
theorem ua1 (t : aj) (ht : dl t = true) : Pure Tryd.prog 67 [eu t] (.tup [lst (j6 t t.length), .v (.int .i64 (lg t : Int))]) := by
 refine dm Tryd.func67 rfl (fun m => .tup (bk (ar _ _) (bk .v cg))) fun G nx => ?_
 simp only [Tryd.ntmps67, List.length_cons, List.length_nil, Nat.reduceAdd, Nat.reduceSub]
 refine ct fun hlt => ?_
 dsimp only at hlt
 obtain ⟨hl1, hl2, hl3⟩ := jo ht
 refine yS fun _ K1 => ?_
 refine yR ?_
 try dsimp only [St.put]
 refine yB rfl rfl rfl ?_
 refine yA rfl rfl ?_
 refine yA rfl rfl ?_
 refine yN ?_
 dsimp only [St.put]
 refine K1 _ ?_
 refine yS fun _ K2 => ?_
 refine yR ?_
 refine yA rfl rfl ?_
 refine yN ?_
 dsimp only [St.put]
 refine K2 _ ?_
 refine s7 4 3 1 rfl (by decide) ?_
 dsimp only [List.set_cons_zero, List.set_cons_succ]
 refine yS fun _ K3 => ?_
 refine yR ?_
 refine yA rfl rfl ?_
 refine yN ?_
 dsimp only [St.put]
 refine K3 _ ?_
 refine yS fun _ K4 => ?_
 refine yS fun _ K5 => ?_
 refine yR ?_
 refine yF rfl rfl rfl rfl ?_
 refine yL rfl rfl rfl ?_
 refine aa rfl (bg rfl rfl (List.length_map _)) ?_
 refine yM rfl rfl ?_
 refine yN ?_
 dsimp only [St.put]
 refine K5 _ ?_
 refine az ?_
 refine cj 12 ?_
 refine zQ ?_
 refine db (ai G nx (.tip 0 3 1)) zX ?_
 dsimp only
 refine c7 (X := Nat) (fun k => k ≤ t.length) (fun k => t.length - k) (fun k => [(4, .list ((j6 t k).map cells) (.tip nx)), (5, .v (.int .i64 (fh t k : Int))), (7, .any), (11, .v (.int .i64 (k : Int)))]) (fun k G' => ai G nx (.tip (j6 t k).length 3 1)) 0 rfl ?_ ?_ ?_ ?_ ?_ ?_
 ·exact Nat.zero_le _
 ·exact zF
 ·exact zX
 ·rintro k hI
  exact zL
 ·rintro k hI
  exact zH
 rintro k hI
 dsimp only at hI ⊢
 refine yS fun _ K6 => ?_
 refine yR ?_
 refine aa rfl (cn rfl rfl rfl) ?_
 refine yN ?_
 dsimp only [St.put]
 refine K6 _ ?_
 refine yS fun _ K7 => ?_
 refine ak rfl (fun hc => ?_) (fun hc => ?_)
 ·replace hc := of_decide_eq_true hc
  obtain ⟨c, hcx⟩ : ∃ c, t[k]? = some c := cx (by omega)
  have hll := (hl3 c (ez hcx)).2.1
  have hsl := og ht k (by omega)
  have hst : ((fh t (k + 1) : Nat) : Int) = (fh t k : Int) + (c.lines.length : Int) := by rw [rt hcx]; omega
  have hln := tn t k
  refine av ?_
  refine K7 _ ?_
  refine yS fun _ K8 => ?_
  refine az ?_
  refine yS fun _ K9 => ?_
  refine yR ?_
  refine aa rfl (bl rfl rfl rfl rfl (bn (by assumption)) (Enc.len _)) ?_
  refine yE rfl rfl rfl ?_
  try dsimp only [St.put]
  refine af rfl (eh rfl ?_)
  try dsimp only [St.put]
  refine af rfl (dt rfl rfl rfl zG rfl rfl (by rfl) ?_)
  refine yN ?_
  dsimp only [St.put]
  refine K9 _ ?_
  refine eo (i := 7) rfl zG zC ?_
  dsimp only
  refine yS fun _ K10 => ?_
  refine yR ?_
  refine yM rfl rfl ?_
  refine yM rfl rfl ?_
  try dsimp only [St.put]
  refine af rfl (ef rfl rfl rfl (by decide) (by decide) zR (by decide) ?_)
  try dsimp only [St.put]
  refine af rfl (ma ([(fh t k : Int)]) rfl rfl zG zE rfl rfl zA ?_ zA)
  refine yA rfl rfl ?_
  refine yN ?_
  dsimp only [St.put]
  refine K10 _ ?_
  refine yR ?_
  refine yM rfl rfl ?_
  refine yF rfl rfl rfl rfl ?_
  refine yL rfl rfl rfl ?_
  refine aa rfl (bg rfl rfl (List.length_map _)) ?_
  refine aa rfl (br rfl rfl rfl (by omega)) ?_
  refine yA rfl rfl ?_
  refine yN ?_
  dsimp only [St.put]
  refine K8 _ ?_
  refine yR ?_
  refine aa rfl (br rfl rfl rfl (by omega)) ?_
  refine yM rfl rfl ?_
  refine yN ?_
  dsimp only [St.put]
  rw [← hst]
  simp only [← ueq]
  exact ⟨k + 1, by omega, by omega, ⟨⟨rfl, rfl⟩, zF, zB, zN, zX⟩⟩
 replace hc := of_decide_eq_false hc
 obtain rfl : k = t.length := by omega
 refine cr ?_
 refine K4 _ ?_
 refine yS fun _ K11 => ?_
 refine yR ?_
 refine yM rfl rfl ?_
 refine yM rfl rfl ?_
 refine yA rfl rfl ?_
 refine yA rfl rfl ?_
 refine yN ?_
 dsimp only [St.put]
 refine K11 _ ?_
 refine ax ?_
 refine iv rfl (fl (by constructor)) (fl (by constructor)) zN zS ?_ ?_
 ·exact zW
 exact Wk.of_eq (vi rfl)
end Go.Proofs.YtgffhbbcpgdjjaaDoor
namespace Go.AB
open Go Go.RowKit Go.ChangeShapes Go.WideShapes
open Go.AB.Enc (cells)
open Go.PB (ay aj PlaceD bh bj bi)
/-- What is read along a type is a datum. -/
class OpensE (P : Program) (t : TypeId) (α : Type) [Enc α] : Prop where
 n : P.cellsOf t = Enc.n α
 op : ∀ {H : Type} {enc : TypeId × Value → H} {w : World} {base : Nat} {spare : Nat → Bool} {held : Bool} {fuel : Nat} {cs : List Value} {x : DataW H × List MemPlace}, DataW.trod enc P w base spare held fuel t cs = some x → ∃ a : α, Rs (gy w) w (cells a) cs
def sr (P : Program) (t : TypeId) (k : IntKind) : Bool := match P.underlying t with | some (.int k') => k' == k && P.cellsOf t == 1 | _ => false
def wo (P : Program) (t : TypeId) : Bool := match P.underlying t with | some .string => P.cellsOf t == 1 | _ => false
def wr (P : Program) (t e : TypeId) : Bool := match P.underlying t with | some (.slice e') => e' == e && P.cellsOf t == 1 | _ => false
def jg (P : Program) (t : TypeId) (l : List (Nat × TypeId × Nat)) (n : Nat) : Bool := match P.underlying t with
 | some (.struct fs) => (fs.toList.map fun f => (f.offset, f.type, P.cellsOf f.type)) == l && P.cellsOf t == n
 | _ => false
theorem zd {n : Int} (h : (Lit.int .i64 n).wf = true) : okV (.int .i64 n) = true := by
 simp [Lit.wf, IntKind.min, IntKind.max, IntKind.signed, IntKind.bits] at h
 exact lz ⟨by omega, by omega⟩
section
variable {P : Program} {t e : TypeId}
theorem xy {k : IntKind} (h : sr P t k = true) : P.underlying t = some (.int k) ∧ P.cellsOf t = 1 := by
 unfold sr at h
 split at h
 ·rename_i k' he
  simp only [Bool.and_eq_true, beq_iff_eq] at h
  rw [he, h.1]; exact ⟨rfl, h.2⟩
 ·cases h
theorem zj (h : wo P t = true) : P.underlying t = some .string ∧ P.cellsOf t = 1 := by
 unfold wo at h
 split at h
 ·rename_i he; exact ⟨he, by simpa using h⟩
 ·cases h
theorem zn (h : wr P t e = true) : P.underlying t = some (.slice e) ∧ P.cellsOf t = 1 := by
 unfold wr at h
 split at h
 ·rename_i k' he
  simp only [Bool.and_eq_true, beq_iff_eq] at h
  rw [he, h.1]; exact ⟨rfl, h.2⟩
 ·cases h
theorem Rs.single {E : Env} {w : World} {c : C} {v : Value} (h : R E w c v) : Rs E w [c] [v] := Rs.cons h Rs.nil
theorem Rs.single_inv {E : Env} {w : World} {c : C} {v : Value} (h : Rs E w [c] [v]) : R E w c v := h.2 0 c v rfl rfl
theorem OpensE.int (h : sr P t .i64 = true) : OpensE P t Int where
 n := (xy h).2
 op hx := by
  obtain ⟨n, rfl, _, h2⟩ := DataW.trod_int (xy h).1 hx
  exact ⟨n, Rs.single (.v (zd h2))⟩
theorem OpensE.str (h : wo P t = true) : OpensE P t ByteArray where
 n := (zj h).2
 op hx := by
  obtain ⟨s, rfl, _, h2⟩ := DataW.trod_string (zj h).1 hx
  exact ⟨s, Rs.single (.v (okV_str.2 (by simpa [maxLen] using h2)))⟩
theorem uer {w : World} {a : Addr} {v : Value} (h : w.cell? a = some v) : a.spot = none := by
 unfold World.cell? at h
 split at h
 ·split at h
  ·cases h
  ·rename_i hs
   cases hsp : a.spot with
   | none => rfl
   | some s => simp [hsp] at hs
 ·cases h
theorem ubu {α : Type} {p : Nat → α → Prop} : ∀ (n : Nat), (∀ i, i < n → ∃ x, p i x) → ∃ xs : List α, xs.length = n ∧ ∀ i x, xs[i]? = some x → p i x
 | 0, _ => ⟨[], rfl, fun i x h => by simp at h⟩
 | n + 1, h => by
  obtain ⟨xs, h1, h2⟩ := ubu n fun i hi => h i (by omega)
  obtain ⟨y, hy⟩ := h n (by omega)
  refine ⟨xs ++ [y], by simp [h1], fun i x hx => ?_⟩
  by_cases hi : i < xs.length
  ·rw [List.getElem?_append_left hi] at hx; exact h2 i x hx
  ·rw [List.getElem?_append_right (by omega)] at hx
   have hz : i - xs.length = 0 := by
    have := (List.getElem?_eq_some_iff.1 hx).1
    simp at this; omega
   rw [hz] at hx
   simp at hx
   subst hx
   rw [show i = n by omega]; exact hy
theorem z7 {α : Type} [Enc α] {E : Env} {w : World} {b : Nat} : ∀ (xs : List α) (off : Nat), (∀ i x, xs[i]? = some x → ∃ es, Rs E w (cells x) es ∧ ∀ j e, es[j]? = some e → w.cell? ⟨b, off + i * Enc.n α + j, none⟩ = some e) →
  ∃ us, Rs E w (xs.map cells).flatten us ∧ ∀ j u, us[j]? = some u → w.cell? ⟨b, off + j, none⟩ = some u
 | [], off, _ => ⟨[], Rs.nil, by simp⟩
 | x :: xs, off, h => by
  obtain ⟨es, h1, h2⟩ := h 0 x rfl
  obtain ⟨us, h3, h4⟩ := z7 xs (off + Enc.n α) fun i y hy => by
   obtain ⟨fs, k1, k2⟩ := h (i + 1) y (by simpa using hy)
   exact ⟨fs, k1, fun j e he => by rw [← k2 j e he]; congr 2; rw [Nat.add_mul]; omega⟩
  have hl : es.length = Enc.n α := by rw [h1.1]; exact Enc.len x
  refine ⟨es ++ us, by rw [List.map_cons, List.flatten_cons]; exact h1.append h3, fun j u hu => ?_⟩
  by_cases hj : j < es.length
  ·rw [List.getElem?_append_left hj] at hu
   rw [← h2 j u hu]; congr 2; omega
  ·rw [List.getElem?_append_right (by omega)] at hu
   rw [← h4 _ u hu]; congr 2; omega
theorem OpensE.slice {α : Type} [Enc α] [o : OpensE P e α] (h : wr P t e = true) (hpos : 1 ≤ Enc.n α) : OpensE P t (List α) where
 n := (zn h).2
 op {H enc w base spare held fuel cs x} hx := by
  rcases Deep.open_slice (zn h).1 hx with ⟨rfl, _⟩ | ⟨a, len, cap, m, n, D, Pl, rfl, hb, hl, hm, hmm, _, hel⟩
  ·refine ⟨[], Rs.single ?_⟩
   exact R.mk_list (rows := []) (sz := 1) (us := []) (Nat.le_refl _) (Nat.zero_le _) (Nat.le_refl _) (by simp) (by simp) Rs.nil (.inl rfl) (by simp) (by simp) (by simp)
  ·have hlm : len ≤ m := by rw [hmm]; split <;> omega
   have hs : 0 < len → a.spot = none := fun h0 => by
    obtain ⟨cs', hc, ht⟩ := hel 0 (by omega)
    obtain ⟨_, hlen, hcell⟩ := World.cells?_some hc
    rw [o.n] at hlen hcell
    have := hcell 0 (by omega)
    rw [List.getElem?_eq_getElem (by omega)] at this
    have := uer this
    simpa [Addr.add] using this
   obtain ⟨xs, h1, h2⟩ := ubu (p := fun i (y : α) => ∃ es, Rs (gy w) w (cells y) es ∧ ∀ j e, es[j]? = some e → w.cell? ⟨a.block, a.off + i * Enc.n α + j, none⟩ = some e) len fun i hi => by
    obtain ⟨cs', hc, ht⟩ := hel i (by omega)
    obtain ⟨y, hy⟩ := o.op ht
    obtain ⟨_, hlen, hcell⟩ := World.cells?_some hc
    rw [o.n] at hlen hcell hc
    have hs' := hs (by omega)
    refine ⟨y, cs', hy, fun j u hj => ?_⟩
    have hj' : j < Enc.n α := by rw [← hlen]; exact (List.getElem?_eq_some_iff.1 hj).1
    have := hcell j hj'
    rw [hj] at this
    rw [← this]
    obtain ⟨ab, ao, asp⟩ := a
    dsimp only at hs'
    subst hs'
    rw [pc, pc]
   subst h1
   refine ⟨xs, Rs.single ?_⟩
   obtain ⟨us, k1, k2⟩ := z7 (E := gy w) (w := w) (b := a.block) xs a.off h2
   have := R.mk_list (E := gy w) (w := w) (rows := xs.map cells) (a := some a) (cap := cap) (sz := Enc.n α) (us := us) (tok := .none) (by simpa using hl) hm hpos (kx xs) (fun r hr c hc => by
    obtain ⟨x, _, rfl⟩ := List.mem_map.1 hr
    exact Enc.one x c hc) k1 (by
    by_cases hxs : xs = []
    ·subst hxs; exact .inl rfl
    ·right
     have hs' := hs (List.length_pos_iff.2 hxs)
     obtain ⟨ab, ao, asp⟩ := a
     dsimp only at hs'
     subst hs'
     refine ⟨ab, ao, rfl, ?_, k2⟩
     have h0 : 0 < us.length := by
      rw [k1.1, mx (kx xs), List.length_map]
      exact Nat.mul_pos (List.length_pos_iff.2 hxs) hpos
     have := yl (k2 (us.length - 1) _ (List.getElem?_eq_getElem (by omega)))
     dsimp only at this
     show ao + us.length ≤ ny w ab
     omega) (by simp) (by simp) (by simp)
   rw [List.length_map] at this
   exact this
theorem zk {l : List (Nat × TypeId × Nat)} {n : Nat} (h : jg P t l n = true) {H : Type} {enc : TypeId × Value → H} {w : World} {base : Nat} {spare : Nat → Bool} {held : Bool} {fuel : Nat} {cs : List Value} {x : DataW H × List MemPlace}
  (hx : DataW.trod enc P w base spare held fuel t cs = some x) : cs.length = n ∧ ∀ p ∈ l, ∃ m y, DataW.trod enc P w base spare held m p.2.1 ((cs.drop p.1).take p.2.2) = some y := by
 unfold jg at h
 split at h
 ·rename_i fs he
  simp only [Bool.and_eq_true, beq_iff_eq] at h
  obtain ⟨xs, m, _, _, hl, hlen, hf⟩ := DataW.trod_struct he hx
  refine ⟨by rw [hl, h.2], fun p hp => ?_⟩
  rw [← h.1] at hp
  obtain ⟨f, hfm, rfl⟩ := List.mem_map.1 hp
  obtain ⟨i, hi⟩ := List.getElem?_of_mem hfm
  have hi' : fs[i]? = some f := by simpa using hi
  have hlt : i < xs.length := by rw [hlen]; exact (Array.getElem?_eq_some_iff.1 hi').1
  exact ⟨m, xs[i], by rw [← List.getElem?_eq_getElem hlt]; exact hf i f hi'⟩
 ·cases h
theorem tm {l : List (Nat × TypeId × Nat)} {n : Nat} (h : jg P t l n = true) : P.cellsOf t = n ∧ ∃ fs, P.underlying t = some (.struct fs) := by
 unfold jg at h
 split at h
 ·rename_i fs he
  simp only [Bool.and_eq_true, beq_iff_eq] at h
  exact ⟨h.2, fs, he⟩
 ·cases h
/-- A struct of one field. -/
theorem OpensE.one {α : Type} [Enc α] [o : OpensE P e α] (h : jg P t [(0, e, Enc.n α)] (Enc.n α) = true) : OpensE P t α where
 n := (tm h).1
 op {H enc w base spare held fuel cs x} hx := by
  obtain ⟨hl, hp⟩ := zk h hx
  obtain ⟨m, y, hy⟩ := hp _ (List.mem_cons_self ..)
  obtain ⟨a, ha⟩ := o.op hy
  dsimp only at ha
  rw [List.drop_zero, List.take_of_length_le (by omega)] at ha
  exact ⟨a, ha⟩
/-- A struct, field by field. -/
theorem OpensE.struct {α : Type} [Enc α] {l : List (Nat × TypeId × Nat)} (h : jg P t l (Enc.n α) = true)
  (b : ∀ (w : World) (cs : List Value), cs.length = Enc.n α → (∀ p ∈ l, ∀ (β : Type) (_ : Enc β), OpensE P p.2.1 β → ∃ a : β, Rs (gy w) w (cells a) ((cs.drop p.1).take p.2.2)) → ∃ a : α, Rs (gy w) w (cells a) cs) : OpensE P t α where
 n := (tm h).1
 op {H enc w base spare held fuel cs x} hx := by
  obtain ⟨hl, hp⟩ := zk h hx
  exact b w cs hl fun p hpl β _ o => let ⟨_, _, hy⟩ := hp p hpl; o.op hy
theorem OpensE.chap {tI tL : TypeId} [oI : OpensE P tI Int] [oL : OpensE P tL (List (List ByteArray))] (h : jg P t [(0, tI, 1), (1, tL, 1)] 2 = true) : OpensE P t ay :=
 .struct (α := ay) h fun w cs hl hp => by
  obtain ⟨a, ha⟩ := hp (0, tI, 1) (by simp) Int inferInstance oI
  obtain ⟨b, hb⟩ := hp (1, tL, 1) (by simp) (List (List ByteArray)) inferInstance oL
  match cs, hl with
  | [u, v], _ => exact ⟨⟨a, b⟩, Rs.cons (Rs.single_inv ha) hb⟩
theorem OpensE.place {tI : TypeId} [oI : OpensE P tI Int] (h : jg P t [(0, tI, 1), (1, tI, 1), (2, tI, 1)] 3 = true) : OpensE P t PlaceD :=
 .struct (α := PlaceD) h fun w cs hl hp => by
  obtain ⟨a, ha⟩ := hp (0, tI, 1) (by simp) Int inferInstance oI
  obtain ⟨b, hb⟩ := hp (1, tI, 1) (by simp) Int inferInstance oI
  obtain ⟨c, hc⟩ := hp (2, tI, 1) (by simp) Int inferInstance oI
  match cs, hl with
  | [u, v, x], _ => exact ⟨⟨a, b, c⟩, Rs.cons (Rs.single_inv ha) (Rs.cons (Rs.single_inv hb) hc)⟩
/-- An argument that is a struct; a number. -/
theorem OpensE.arg {α : Type} [Enc α] [o : OpensE P t α] {l : List (Nat × TypeId × Nat)} {n : Nat} (h : jg P t l n = true) {H : Type} {enc : TypeId × Value → H} {w : World} {base : Nat} {spare : Nat → Bool} {held : Bool} {r : Reach} {b0 : Nat} {v : Value} {d : DataW H} {ps : List MemPlace}
  (hv : Value.okWide P w r b0 t v) (hd : DataW.Trod enc P w base spare held t v d ps) : ∃ a : α, R (gy w) w (.agg (cells a)) v := by
 obtain ⟨fs, hs⟩ := (tm h).2
 obtain ⟨cs, rfl, _⟩ := okWide_struct hs hv
 obtain ⟨fuel, hf⟩ := hd
 obtain ⟨a, ha⟩ := o.op hf
 exact ⟨a, by simpa [Value.cells] using Rs.agg ha (Enc.one a)⟩
theorem OpensE.argInt (h : sr P t .i64 = true) {H : Type} {enc : TypeId × Value → H} {w : World} {base : Nat} {spare : Nat → Bool} {held : Bool} {r : Reach} {b0 : Nat} {v : Value} {d : DataW H} {ps : List MemPlace}
  (hv : Value.okWide P w r b0 t v) (hd : DataW.Trod enc P w base spare held t v d ps) : ∃ a : Int, R (gy w) w (.v (.int .i64 a)) v := by
 obtain ⟨i, rfl, _, _, wi⟩ := open_int (xy h).1 hv hd
 exact ⟨i, .v (zd wi)⟩
end
theorem uhg {P : Program} {f : FuncId} {cs : List C} {v fv : Value} {fc : C} (hp : PureF (.fact fv fc) P f cs (.v v)) {w : World} {args : List Value} (hF : R (gy w) w fc fv) (hr : Rs (gy w) w cs args) :
  Calls P f args.toArray w fun e w' => e = .returned v ∧ Below w.heap.size w w' := by
 obtain ⟨E1, v1, g1⟩ := uck (udc w) hF
 refine (hp _ _ (i0 _ _ _) E1 w args (hr.ev v1) g1).mono ?_
 rintro e w' ⟨r, x, E', G', nx', rfl, hev, hx, _, rfl, _⟩
 exact ⟨by rw [hx.v_inv], by have := hev.below; rw [v1.B] at this; exact this⟩
end Go.AB
namespace Go.AB
open Go Go.RowKit Go.ChangeShapes Go.WideShapes
open Go.AB.Enc (cells)
variable {P : Program} {o : Oper} {st : St}
end Go.AB
namespace Go.AB
open Go Go.RowKit
open Go.AB.Enc (cells)
variable {P : Program} {o : Oper} {st : St}
theorem sd {xt yt : TypeId} {x y : Operand} {m n : Int} (ho : o.op = .binOp .mul xt x y yt) (hx : evC st x = .v (.int .i64 m)) (hy : evC st y = .v (.int .i64 n)) (hb : -9223372036854775808 ≤ m * n ∧ m * n ≤ 9223372036854775807) : NStep P o st (.v (.int .i64 (m * n))) :=
 l4 ho hx hy (lz hb) fun w => by
  have : IntKind.i64.wrap (m * n) = m * n := by rw [IntKind.wrap_i64]; omega
  simp [eqGuard, binOp, Op.intArith, this]
theorem pj {xt yt : TypeId} {x y : Operand} {m n : Int} (ho : o.op = .binOp .quo xt x y yt) (hx : evC st x = .v (.int .i64 m)) (hy : evC st y = .v (.int .i64 n)) (hm : 0 ≤ m ∧ m ≤ 9223372036854775807) (hn : 0 < n) : NStep P o st (.v (.int .i64 (m / n))) := by
 have h3 : 0 ≤ m / n := Int.ediv_nonneg hm.1 (by omega)
 have h4 : m / n ≤ m := Int.ediv_le_self _ hm.1
 exact l4 ho hx hy (lz (by omega)) fun w => by
  have h1 : ¬ n = 0 := by omega
  have h2 : m.tdiv n = m / n := Int.tdiv_eq_ediv_of_nonneg hm.1
  have h5 : IntKind.i64.wrap (m / n) = m / n := by rw [IntKind.wrap_i64]; omega
  simp [eqGuard, binOp, Op.intDiv, h1, h2, h5]
end Go.AB
namespace Go.AB
open Go Go.RowKit
open Go.AB.Enc (cells)
open Go.PB (ay aj PlaceD bh bj bi bx aq am cv co dq dp)
theorem zm {t : aj} (ht : dl t = true) (k : Nat) : fh t k ≤ 60 := by
 obtain ⟨_, h2, h3⟩ := jo ht
 have key : ∀ j, j ≤ t.length → fh t j ≤ j * 10 := by
  intro j
  induction j with
  | zero => intro _; rw [zl]; exact Nat.zero_le _
  | succ j ih =>
   intro hj
   have hc : t[j]? = some t[j] := List.getElem?_eq_getElem (by omega)
   rw [rt hc]
   have := (h3 _ (List.mem_of_getElem? hc)).2.1
   have := ih (by omega)
   omega
 by_cases q : k ≤ t.length
 ·have := key k q; omega
 have h1 := key t.length (Nat.le_refl _)
 have e : fh t k = fh t t.length := by
  unfold fh
  rw [List.take_of_length_le (show t.length ≤ k by omega), List.take_of_length_le (Nat.le_refl _)]
 omega
instance decLtW : ∀ a b : List Int, Decidable (ltW a b)
 | [], _ => isFalse (by simp [ltW])
 | _ :: _, [] => isFalse (by simp [ltW])
 | x :: a, y :: b => by
  have := decLtW a b
  unfold ltW
  exact inferInstance
end Go.AB
namespace Go.Proofs.YtgffhbbcpgdjjaaDoor
set_option maxRecDepth 10000
open Go.RowKit Go.AB
open Go.AB.Enc (cells)
open Go.PB (ay aj PlaceD bh bj bi bx aq am cv co dq dp)
theorem ne (n lo hi : Int) : Pure Tryd.prog 44 [.v (.int .i64 n), .v (.int .i64 lo), .v (.int .i64 hi)] (.v (.bool (inB n lo hi))) := by
 refine dm Tryd.func44 rfl (fun m => .v) fun G nx => ?_
 simp only [Tryd.ntmps44, List.length_cons, List.length_nil, Nat.reduceAdd, Nat.reduceSub]
 refine ct fun hlt => ?_
 dsimp only at hlt
 refine yS fun _ K1 => ?_
 refine yR ?_
 refine yA rfl rfl ?_
 refine yN ?_
 dsimp only [St.put]
 refine K1 _ ?_
 refine yS fun _ K2 => ?_
 refine yR ?_
 refine yM rfl rfl ?_
 refine yM rfl rfl ?_
 refine aa rfl (oz rfl rfl rfl) ?_
 refine ep (fun hs => ?_) (fun hs => ?_)
 ·try replace hs := of_decide_eq_true hs
  refine yM rfl rfl ?_
  refine yM rfl rfl ?_
  refine yM rfl rfl ?_
  refine aa rfl (se rfl rfl rfl) ?_
  refine aa rfl (ck rfl rfl (by constructor)) ?_
  refine yA rfl rfl ?_
  refine yN ?_
  dsimp only [St.put]
  refine K2 _ ?_
  refine ax ?_
  refine bp rfl (by constructor) zN zS ?_
  exact vb (by simp [inB, hs]; try omega)
 try replace hs := of_decide_eq_false hs
 refine yM rfl rfl ?_
 refine yK rfl ?_
 refine yK rfl ?_
 refine yK rfl ?_
 refine aa rfl (bz rfl rfl (by constructor)) ?_
 refine yA rfl rfl ?_
 refine yN ?_
 dsimp only [St.put]
 refine K2 _ ?_
 refine ax ?_
 refine bp rfl (by constructor) zN zS ?_
 exact vb (by simp [inB, hs]; try omega)
theorem ufs (t : aj) (ht : dl t = true) : Pure Tryd.prog 72 [eu t] (.v (.int .i64 (lg t : Int))) := by
 refine dm Tryd.func72 rfl (fun m => .v) fun G nx => ?_
 simp only [Tryd.ntmps72, List.length_cons, List.length_nil, Nat.reduceAdd, Nat.reduceSub]
 refine ct fun hlt => ?_
 dsimp only at hlt
 obtain ⟨hl1, hl2, hl3⟩ := jo ht
 refine yS fun _ K1 => ?_
 refine yR ?_
 try dsimp only [St.put]
 refine yB rfl rfl rfl ?_
 refine yA rfl rfl ?_
 refine yN ?_
 dsimp only [St.put]
 refine K1 _ ?_
 refine yS fun _ K2 => ?_
 refine yR ?_
 refine yA rfl rfl ?_
 refine yN ?_
 dsimp only [St.put]
 refine K2 _ ?_
 refine yS fun _ K3 => ?_
 refine yS fun _ K4 => ?_
 refine yR ?_
 refine yA rfl rfl ?_
 refine yN ?_
 dsimp only [St.put]
 refine K4 _ ?_
 refine az ?_
 refine cj 5 ?_
 refine zQ ?_
 refine db (G) zX ?_
 dsimp only
 refine c7 (X := Nat) (fun k => k ≤ t.length) (fun k => t.length - k) (fun k => [(3, .v (.int .i64 ((fh t k : Nat) : Int))), (4, .v (.int .i64 (k : Int)))]) (fun k G' => G') 0 rfl ?_ ?_ (fun _ _ h => h) ?_ ?_ ?_
 ·exact Nat.zero_le _
 ·exact zF
 ·rintro k hI
  exact zL
 ·exact fun _ _ _ _ h => .inl h
 rintro k hI
 dsimp only at hI ⊢
 refine yS fun _ K5 => ?_
 refine yS fun _ K6 => ?_
 refine yR ?_
 refine yM rfl rfl ?_
 refine yF rfl rfl rfl rfl ?_
 refine yL rfl rfl rfl ?_
 refine aa rfl (bg rfl rfl (List.length_map _)) ?_
 refine aa rfl (cn rfl rfl rfl) ?_
 refine yN ?_
 dsimp only [St.put]
 refine K6 _ ?_
 refine ak rfl (fun hc => ?_) (fun hc => ?_)
 ·replace hc := of_decide_eq_true hc
  obtain ⟨c, hk⟩ : ∃ x, t[k]? = some x := cx (by omega)
  have hcl := hl3 c (ez hk)
  have hst := zm ht k
  refine av ?_
  refine K5 _ ?_
  refine yS fun _ K7 => ?_
  refine az ?_
  refine yR ?_
  refine yM rfl rfl ?_
  refine yF rfl rfl rfl rfl ?_
  refine yL rfl rfl rfl ?_
  refine yM rfl rfl ?_
  refine aa rfl (bl rfl rfl rfl rfl (bn (by assumption)) (Enc.len _)) ?_
  refine yF rfl rfl rfl rfl ?_
  refine yL rfl rfl rfl ?_
  refine aa rfl (bg rfl rfl (List.length_map _)) ?_
  refine aa rfl (br rfl rfl rfl (by omega)) ?_
  refine yA rfl rfl ?_
  refine yN ?_
  dsimp only [St.put]
  refine K7 _ ?_
  refine yR ?_
  refine yM rfl rfl ?_
  refine aa rfl (br rfl rfl rfl (by omega)) ?_
  refine yA rfl rfl ?_
  refine yN ?_
  dsimp only [St.put]
  have e := rt hk
  rw [show ((fh t k : Nat) : Int) + (c.lines.length : Int) = ((fh t (k + 1) : Nat) : Int) by rw [e]; rfl]
  exact ⟨k + 1, by omega, by omega, ⟨⟨rfl, rfl⟩, zF, zB, zN, zX⟩⟩
 replace hc := of_decide_eq_false hc
 obtain rfl : k = t.length := by omega
 refine cr ?_
 refine K3 _ ?_
 refine yS fun _ K8 => ?_
 refine yR ?_
 refine yM rfl rfl ?_
 refine yA rfl rfl ?_
 refine yN ?_
 dsimp only [St.put]
 refine K8 _ ?_
 refine ax ?_
 refine bp rfl (by constructor) zN zS ?_
 rfl
theorem w4 (t : aj) (q : PlaceD) (ht : dl t = true) (hq : ey t q = true) : Pure Tryd.prog 64 [eu t, val q] (.v (.int .i64 (nk t q))) := by
 refine dm Tryd.func64 rfl (fun m => .v) fun G nx => ?_
 simp only [Tryd.ntmps64, List.length_cons, List.length_nil, Nat.reduceAdd, Nat.reduceSub]
 refine ct fun hlt => ?_
 dsimp only at hlt
 obtain ⟨hl1, hl2, hl3⟩ := jo ht
 obtain ⟨kc, kn, kw, c0, l0, hqe, hkc, hkn, _⟩ := w5 hq
 have hkcl := (List.getElem?_eq_some_iff.1 hkc).1
 have hknl := (List.getElem?_eq_some_iff.1 hkn).1
 have hc0 := (hl3 c0 (ez hkc)).2.1
 subst hqe
 refine yS fun _ K1 => ?_
 refine yR ?_
 try dsimp only [St.put]
 refine yB rfl rfl rfl ?_
 try dsimp only [St.put]
 refine yB rfl rfl rfl ?_
 refine yA rfl rfl ?_
 refine yN ?_
 dsimp only [St.put]
 refine K1 _ ?_
 refine yS fun _ K2 => ?_
 refine yR ?_
 refine yF rfl rfl rfl rfl ?_
 refine yL rfl rfl rfl ?_
 refine yA rfl rfl ?_
 refine yN ?_
 dsimp only [St.put]
 refine K2 _ ?_
 refine yS fun _ K3 => ?_
 refine yS fun _ K4 => ?_
 refine yR ?_
 refine yA rfl rfl ?_
 refine yN ?_
 dsimp only [St.put]
 refine K4 _ ?_
 refine az ?_
 refine cj 7 ?_
 refine zQ ?_
 refine db (G) zX ?_
 dsimp only
 refine c7 (X := Nat) (fun k => k ≤ kc) (fun k => kc - k) (fun k => [(5, .v (.int .i64 ((kn : Int) + ((fh t k : Nat) : Int)))), (6, .v (.int .i64 (k : Int)))]) (fun k G' => G') 0 rfl ?_ ?_ (fun _ _ h => h) ?_ ?_ ?_
 ·exact Nat.zero_le _
 ·exact zF
 ·rintro k hI
  exact zL
 ·exact fun _ _ _ _ h => .inl h
 rintro k hI
 dsimp only at hI ⊢
 refine yS fun _ K5 => ?_
 refine yS fun _ K6 => ?_
 refine yR ?_
 refine yM rfl rfl ?_
 refine yF rfl rfl rfl rfl ?_
 refine yL rfl rfl rfl ?_
 refine aa rfl (cn rfl rfl rfl) ?_
 refine yN ?_
 dsimp only [St.put]
 refine K6 _ ?_
 refine ak rfl (fun hc => ?_) (fun hc => ?_)
 ·replace hc := of_decide_eq_true hc
  obtain ⟨c, hk⟩ : ∃ x, t[k]? = some x := cx (by omega)
  have hcl := hl3 c (ez hk)
  have hst := zm ht k
  refine av ?_
  refine K5 _ ?_
  refine yS fun _ K7 => ?_
  refine az ?_
  refine yR ?_
  refine yM rfl rfl ?_
  refine yF rfl rfl rfl rfl ?_
  refine yL rfl rfl rfl ?_
  refine yM rfl rfl ?_
  refine aa rfl (bl rfl rfl rfl rfl (bn (by assumption)) (Enc.len _)) ?_
  refine yF rfl rfl rfl rfl ?_
  refine yL rfl rfl rfl ?_
  refine aa rfl (bg rfl rfl (List.length_map _)) ?_
  refine aa rfl (br rfl rfl rfl (by omega)) ?_
  refine yA rfl rfl ?_
  refine yN ?_
  dsimp only [St.put]
  refine K7 _ ?_
  refine yR ?_
  refine yM rfl rfl ?_
  refine aa rfl (br rfl rfl rfl (by omega)) ?_
  refine yA rfl rfl ?_
  refine yN ?_
  dsimp only [St.put]
  have e := rt hk
  rw [show (kn : Int) + ((fh t k : Nat) : Int) + (c.lines.length : Int) = (kn : Int) + ((fh t (k + 1) : Nat) : Int) by rw [e, Int.natCast_add]; omega]
  exact ⟨k + 1, by omega, by omega, ⟨⟨rfl, rfl⟩, zF, zB, zN, zX⟩⟩
 replace hc := of_decide_eq_false hc
 obtain rfl : k = kc := by omega
 refine cr ?_
 refine K3 _ ?_
 refine yS fun _ K8 => ?_
 refine yR ?_
 refine yM rfl rfl ?_
 refine yA rfl rfl ?_
 refine yN ?_
 dsimp only [St.put]
 refine K8 _ ?_
 refine ax ?_
 refine bp rfl (by constructor) zN zS ?_
 exact vi (by unfold nk; rw [Int.toNat_natCast])
theorem uai (l : List PlaceD) (q : PlaceD) (hl : l.length ≤ 1000) : Pure Tryd.prog 65 [lst l, val q] (.v (.bool (decide (q ∈ l)))) := by
 refine dm Tryd.func65 rfl (fun m => .v) fun G nx => ?_
 simp only [Tryd.ntmps65, List.length_cons, List.length_nil, Nat.reduceAdd, Nat.reduceSub]
 refine ct fun hlt => ?_
 dsimp only at hlt
 refine yS fun _ K1 => ?_
 refine yR ?_
 try dsimp only [St.put]
 refine yB rfl rfl rfl ?_
 refine yA rfl rfl ?_
 refine yN ?_
 dsimp only [St.put]
 refine K1 _ ?_
 refine yS fun _ K2 => ?_
 refine yS fun _ K3 => ?_
 refine yR ?_
 refine yA rfl rfl ?_
 refine yN ?_
 dsimp only [St.put]
 refine K3 _ ?_
 refine az ?_
 refine cj 6 ?_
 refine zQ ?_
 refine db (G) zX ?_
 dsimp only
 refine c7 (X := Nat) (fun k => k ≤ l.length ∧ ∀ y ∈ l.take k, y ≠ q) (fun k => l.length - k) (fun k => [(5, .v (.int .i64 (k : Int)))]) (fun k G' => G') 0 rfl ?_ ?_ (fun _ _ h => h) ?_ ?_ ?_
 ·exact ⟨Nat.zero_le _, by simp⟩
 ·exact zF
 ·rintro k hI
  exact zL
 ·exact fun _ _ _ _ h => .inl h
 rintro k hI
 dsimp only at hI ⊢
 refine yS fun _ K4 => ?_
 refine yS fun _ K5 => ?_
 refine yR ?_
 refine yM rfl rfl ?_
 refine yM rfl rfl ?_
 refine aa rfl (bg rfl rfl (List.length_map _)) ?_
 refine aa rfl (cn rfl rfl rfl) ?_
 refine yN ?_
 dsimp only [St.put]
 refine K5 _ ?_
 refine ak rfl (fun hc => ?_) (fun hc => ?_)
 ·replace hc := of_decide_eq_true hc
  obtain ⟨y, hy⟩ : ∃ y, l[k]? = some y := cx (by omega)
  refine av ?_
  refine K4 _ ?_
  refine yS fun _ K6 => ?_
  refine az ?_
  refine yS fun _ K7 => ?_
  refine f4 [(0, none), (1, none), (2, none), (3, none), (4, none), (5, none)] (fun i => [].contains i) (fun i => [].contains i) (fun i => [0, 1, 2, 5].contains i) [] (by kernel_rfl) (by kernel_rfl) ?_
  refine xM rfl rfl rfl rfl rfl ?_
  refine xM rfl rfl rfl rfl rfl ?_
  try dsimp only [St.put]
  refine ae rfl rfl rfl rfl (bl rfl rfl rfl rfl (bn (by assumption)) (Enc.len _)) ?_
  try dsimp only [St.put]
  refine aw rfl rfl rfl rfl (d9 rfl rfl (Enc.len _)) ?_
  try dsimp only [St.put]
  refine aw rfl rfl rfl rfl (d9 rfl rfl (Enc.len _)) ?_
  refine ae rfl rfl rfl rfl (xk (x := y) (y := q) rfl rfl rfl) ?_
  refine bq ?_
  dsimp only [St.put]
  refine K7 _ ?_
  refine ak rfl (fun hc => ?_) (fun hc => ?_)
  ·have he : y = q := of_decide_eq_true hc
   refine yS fun _ K8 => ?_
   refine yR ?_
   refine yA rfl rfl ?_
   refine yN ?_
   dsimp only [St.put]
   refine K8 _ ?_
   refine ax ?_
   refine bp rfl (by constructor) zN zS ?_
   exact vb (decide_eq_true (he ▸ ez hy)).symm
  have hne : y ≠ q := of_decide_eq_false hc
  refine av ?_
  refine K6 _ ?_
  refine yR ?_
  refine yM rfl rfl ?_
  refine aa rfl (br rfl rfl rfl (by omega)) ?_
  refine yA rfl rfl ?_
  refine yN ?_
  dsimp only [St.put]
  exact ⟨k + 1, by omega, ⟨by omega, xo (p := fun y => y ≠ q) hy hne hI.2⟩, ⟨⟨rfl, rfl⟩, zF, zB, zN, zX⟩⟩
 replace hc := of_decide_eq_false hc
 refine cr ?_
 refine K2 _ ?_
 refine yS fun _ K9 => ?_
 refine yR ?_
 refine yA rfl rfl ?_
 refine yN ?_
 dsimp only [St.put]
 refine K9 _ ?_
 refine ax ?_
 refine bp rfl (by constructor) zN zS ?_
 exact vb (by
  have := hI.2
  rw [f8 (show l.length ≤ k by omega)] at this
  exact (decide_eq_false fun h => this q h rfl).symm)
end Go.Proofs.YtgffhbbcpgdjjaaDoor
namespace Go.AB
open Go Go.RowKit
open Go.AB.Enc (cells)
open Go.PB (ay aj PlaceD bh bj bi bx aq am cv co dq dp)
theorem zb {t : aj} {x : aq} {i : Nat} {q : PlaceD} (h : (dh t)[i]? = some q) : dr t x ((dh t).take (i + 1)) = dr t x ((dh t).take i) + bif el t x q then 1 else 0 := by
 unfold dr
 rw [List.take_add_one, h, Option.toList_some, List.filter_append, List.length_append]
 cases hf : el t x q <;> simp [hf]
def i6 (x : aq) (b : Bool) (q : PlaceD) : Bool := bif b then decide (q ∈ x.found) && decide (q ∈ x.well) else decide (q ∈ x.found) || decide (q ∈ x.well)
/-- what is found, among the first places -/
def mw (t : aj) (x : aq) (b : Bool) (i : Nat) : List PlaceD := ((dh t).take i).filter (i6 x b)
theorem ub9 {t : aj} {x : aq} {b : Bool} {i : Nat} {q : PlaceD} (h : (dh t)[i]? = some q) : mw t x b (i + 1) = mw t x b i ++ bif i6 x b q then [q] else [] := by
 unfold mw
 rw [List.take_add_one, h, Option.toList_some, List.filter_append]
 cases hf : i6 x b q <;> simp [hf]
theorem uhq (t : aj) (x : aq) (b : Bool) : mw t x b (dh t).length = bif b then bf t x else ca t x := by
 unfold mw
 rw [List.take_length]
 cases b <;> rfl
theorem uhp (t : aj) (x : aq) (b : Bool) (i : Nat) : (mw t x b i).length ≤ (dh t).length := by
 unfold mw
 have := List.length_filter_le (i6 x b) ((dh t).take i)
 rw [List.length_take] at this
 omega
end Go.AB
namespace Go.Proofs.YtgffhbbcpgdjjaaDoor
set_option maxRecDepth 10000
open Go.RowKit Go.AB
open Go.AB.Enc (cells)
open Go.PB (ay aj PlaceD bh bj bi bx aq am cv co dq dp)
theorem ufq (p : am) (j : Nat) (x : aq) (ht : dl p.text = true) (hx : p.pages[j]? = some x) : Pure Tryd.prog 37 [val p, .v (.int .i64 (j : Int))] (.v (.int .i64 (dw p.text x : Int))) := by
 refine dm Tryd.func37 rfl (fun m => .v) fun G nx => ?_
 simp only [Tryd.ntmps37, List.length_cons, List.length_nil, Nat.reduceAdd, Nat.reduceSub]
 refine ct fun hlt => ?_
 dsimp only at hlt
 have hal := km ht
 have hjl := (List.getElem?_eq_some_iff.1 hx).1
 refine yS fun _ K1 => ?_
 refine yR ?_
 try dsimp only [St.put]
 refine yB rfl rfl rfl ?_
 refine yA rfl rfl ?_
 refine yN ?_
 dsimp only [St.put]
 refine K1 _ ?_
 refine yS fun _ K2 => ?_
 refine yR ?_
 refine yA rfl rfl ?_
 refine yN ?_
 dsimp only [St.put]
 refine K2 _ ?_
 refine yS fun _ K3 => ?_
 refine yR ?_
 refine yF rfl rfl rfl rfl ?_
 try dsimp only [St.put]
 refine du rfl (c := eu p.text) (im (cs := cells p) rfl rfl (show 1 ≤ 4 by decide)) ?_
 try dsimp only [St.put]
 refine af rfl (ba rfl rfl rfl (uaf p.text ht) ?_)
 refine yA rfl rfl ?_
 refine yN ?_
 dsimp only [St.put]
 refine K3 _ ?_
 refine yS fun _ K4 => ?_
 refine yS fun _ K5 => ?_
 refine yR ?_
 refine yA rfl rfl ?_
 refine yN ?_
 dsimp only [St.put]
 refine K5 _ ?_
 refine az ?_
 refine cj 8 ?_
 refine zQ ?_
 refine db (G) zX ?_
 dsimp only
 refine c7 (X := Nat) (fun i => i ≤ (dh p.text).length) (fun i => (dh p.text).length - i) (fun i => [(5, .v (.int .i64 ((dr p.text x ((dh p.text).take i) : Nat) : Int))), (7, .v (.int .i64 (i : Int)))]) (fun i G' => G') 0 rfl ?_ ?_ (fun _ _ h => h) ?_ ?_ ?_
 ·exact Nat.zero_le _
 ·exact zF
 ·rintro i hI
  exact zL
 ·exact fun _ _ _ _ h => .inl h
 rintro i hI
 dsimp only at hI ⊢
 refine yS fun _ K6 => ?_
 refine yS fun _ K7 => ?_
 refine yR ?_
 refine yM rfl rfl ?_
 refine yM rfl rfl ?_
 refine aa rfl (bg rfl rfl (List.length_map _)) ?_
 refine aa rfl (cn rfl rfl rfl) ?_
 refine yN ?_
 dsimp only [St.put]
 refine K7 _ ?_
 refine ak rfl (fun hc => ?_) (fun hc => ?_)
 ·replace hc := of_decide_eq_true hc
  obtain ⟨q, hq⟩ : ∃ q, (dh p.text)[i]? = some q := cx (by omega)
  have hqp := allQ_mem.1 (List.mem_of_getElem? hq)
  have hwl : dr p.text x ((dh p.text).take i) ≤ (dh p.text).length := by
   unfold dr
   have := List.length_filter_le (el p.text x) ((dh p.text).take i)
   rw [List.length_take] at this
   omega
  refine av ?_
  refine K6 _ ?_
  refine yS fun _ K8 => ?_
  refine az ?_
  refine yS fun _ K9 => ?_
  refine f4 [(0, none), (1, none), (2, none), (3, none), (4, none), (5, none), (7, none), (8, none), (9, none), (10, none), (11, none), (12, none), (13, none), (14, none), (15, none), (16, none), (17, none), (18, none), (6, none), (19, none)] (fun i => [19].contains i) (fun i => [6, 19].contains i) (fun i => [0, 2, 3, 4, 7, 9, 10, 11, 13, 15, 16, 17].contains i) [] (by kernel_rfl) (by kernel_rfl) ?_
  refine ae rfl rfl rfl rfl (cb rfl rfl rfl) ?_
  try dsimp only [St.put]
  refine aw rfl rfl rfl rfl (c := eu p.text) (im (cs := cells p) rfl rfl (show 1 ≤ 4 by decide)) ?_
  refine xM rfl rfl rfl rfl rfl ?_
  refine xM rfl rfl rfl rfl rfl ?_
  try dsimp only [St.put]
  refine ae rfl rfl rfl rfl (bl rfl rfl rfl rfl (bn (by assumption)) (Enc.len _)) ?_
  try dsimp only [St.put]
  refine aw rfl rfl rfl rfl (d9 rfl rfl (Enc.len _)) ?_
  refine ae rfl rfl rfl rfl (cb rfl rfl rfl) ?_
  try dsimp only [St.put]
  refine aw rfl rfl rfl rfl (bv rfl rfl) ?_
  refine xM rfl rfl rfl rfl rfl ?_
  try dsimp only [St.put]
  refine ae rfl rfl rfl rfl (bl rfl rfl rfl rfl (bn (by assumption)) (Enc.len _)) ?_
  refine ae rfl rfl rfl rfl (cb rfl rfl rfl) ?_
  try dsimp only [St.put]
  refine aw rfl rfl rfl rfl (bv rfl rfl) ?_
  refine ae rfl rfl rfl rfl (cb rfl rfl rfl) ?_
  try dsimp only [St.put]
  refine aw rfl rfl rfl rfl (bv rfl rfl) ?_
  refine xM rfl rfl rfl rfl rfl ?_
  try dsimp only [St.put]
  refine ae rfl rfl rfl rfl (bl rfl rfl rfl rfl (bn (by assumption)) (Enc.len _)) ?_
  refine ae rfl rfl rfl rfl (cb rfl rfl rfl) ?_
  try dsimp only [St.put]
  refine aw rfl rfl rfl rfl (bv rfl rfl) ?_
  refine ij ?_
  try dsimp only [St.put]
  refine g8 rfl rfl rfl (ba rfl rfl rfl (w4 p.text q ht hqp) ⟨zD, ?_⟩)
  try dsimp only [St.put]
  refine gt rfl rfl rfl rfl (ba rfl rfl rfl (ne _ _ _) ?_)
  refine ii ?_
  dsimp only [St.put]
  refine K9 _ ?_
  refine ak rfl (fun hc => ?_) (fun hc => ?_)
  ·have hb : el p.text x q = true := hc
   refine yR ?_
   refine yM rfl rfl ?_
   refine aa rfl (br rfl rfl rfl (by omega)) ?_
   refine yA rfl rfl ?_
   refine yN ?_
   dsimp only [St.put]
   refine K8 _ ?_
   refine yR ?_
   refine yM rfl rfl ?_
   refine aa rfl (br rfl rfl rfl (by omega)) ?_
   refine yA rfl rfl ?_
   refine yN ?_
   dsimp only [St.put]
   have e := zb (x := x) hq
   first
   | (have z : el p.text x q = true := hb
      rw [z, cond_true] at e
      rw [show ((dr p.text x ((dh p.text).take i) : Nat) : Int) + 1 = ((dr p.text x ((dh p.text).take (i + 1)) : Nat) : Int) by rw [e]; rfl]
      exact ⟨i + 1, by omega, by omega, ⟨⟨rfl, rfl⟩, zF, zB, zN, zX⟩⟩)
   | (have z : el p.text x q = false := hb
      rw [show dr p.text x ((dh p.text).take i) = dr p.text x ((dh p.text).take (i + 1)) by rw [e, z]; rfl]
      exact ⟨i + 1, by omega, by omega, ⟨⟨rfl, rfl⟩, zF, zB, zN, zX⟩⟩)
  have hb : el p.text x q = false := hc
  refine av ?_
  refine K8 _ ?_
  refine yR ?_
  refine yM rfl rfl ?_
  refine aa rfl (br rfl rfl rfl (by omega)) ?_
  refine yA rfl rfl ?_
  refine yN ?_
  dsimp only [St.put]
  have e := zb (x := x) hq
  first
  | (have z : el p.text x q = true := hb
     rw [z, cond_true] at e
     rw [show ((dr p.text x ((dh p.text).take i) : Nat) : Int) + 1 = ((dr p.text x ((dh p.text).take (i + 1)) : Nat) : Int) by rw [e]; rfl]
     exact ⟨i + 1, by omega, by omega, ⟨⟨rfl, rfl⟩, zF, zB, zN, zX⟩⟩)
  | (have z : el p.text x q = false := hb
     rw [show dr p.text x ((dh p.text).take i) = dr p.text x ((dh p.text).take (i + 1)) by rw [e, z]; rfl]
     exact ⟨i + 1, by omega, by omega, ⟨⟨rfl, rfl⟩, zF, zB, zN, zX⟩⟩)
 replace hc := of_decide_eq_false hc
 obtain rfl : i = (dh p.text).length := by omega
 refine cr ?_
 refine K4 _ ?_
 refine yS fun _ K10 => ?_
 refine yR ?_
 refine yM rfl rfl ?_
 refine yA rfl rfl ?_
 refine yN ?_
 dsimp only [St.put]
 refine K10 _ ?_
 refine ax ?_
 refine bp rfl (by constructor) zN zS ?_
 exact vi (by rw [List.take_length]; rfl)
theorem uaj (p : am) (j : Nat) (x : aq) (b : Bool) (ht : dl p.text = true) (hx : p.pages[j]? = some x) (hf : x.found.length ≤ 1000) (hw : x.well.length ≤ 1000) : Pure Tryd.prog 38 [val p, .v (.int .i64 (j : Int)), .v (.bool b)] (lst (bif b then bf p.text x else ca p.text x)) := by
 refine dm Tryd.func38 rfl (fun m => (ar _ _)) fun G nx => ?_
 simp only [Tryd.ntmps38, List.length_cons, List.length_nil, Nat.reduceAdd, Nat.reduceSub]
 refine ct fun hlt => ?_
 dsimp only at hlt
 have hal := km ht
 have hjl := (List.getElem?_eq_some_iff.1 hx).1
 refine yS fun _ K1 => ?_
 refine yR ?_
 try dsimp only [St.put]
 refine yB rfl rfl rfl ?_
 refine yA rfl rfl ?_
 refine yN ?_
 dsimp only [St.put]
 refine K1 _ ?_
 refine yS fun _ K2 => ?_
 refine yR ?_
 refine yA rfl rfl ?_
 refine yN ?_
 dsimp only [St.put]
 refine K2 _ ?_
 refine s7 7 54 3 rfl (by decide) ?_
 dsimp only [List.set_cons_zero, List.set_cons_succ]
 refine yS fun _ K3 => ?_
 refine yR ?_
 refine yF rfl rfl rfl rfl ?_
 refine yL rfl rfl rfl ?_
 refine yM rfl rfl ?_
 refine aa rfl (bl rfl rfl rfl rfl (bn (by assumption)) (Enc.len _)) ?_
 refine yE rfl rfl rfl ?_
 try dsimp only [St.put]
 refine af rfl (eh rfl ?_)
 try dsimp only [St.put]
 refine af rfl (dt rfl rfl rfl zG rfl rfl (by rfl) ?_)
 refine yN ?_
 dsimp only [St.put]
 refine K3 _ ?_
 refine eo (i := 8) rfl zG zC ?_
 dsimp only
 refine yS fun _ K4 => ?_
 refine yR ?_
 refine yF rfl rfl rfl rfl ?_
 try dsimp only [St.put]
 refine du rfl (c := eu p.text) (im (cs := cells p) rfl rfl (show 1 ≤ 4 by decide)) ?_
 try dsimp only [St.put]
 refine af rfl (ba rfl rfl rfl (uaf p.text ht) ?_)
 refine yA rfl rfl ?_
 refine yN ?_
 dsimp only [St.put]
 refine K4 _ ?_
 refine yS fun _ K5 => ?_
 refine yS fun _ K6 => ?_
 refine yR ?_
 refine yA rfl rfl ?_
 refine yN ?_
 dsimp only [St.put]
 refine K6 _ ?_
 refine az ?_
 refine cj 13 ?_
 refine zQ ?_
 refine db ((ai G nx (.tip (mw p.text x b 0).length 54 3))) zX ?_
 dsimp only
 refine c7 (X := Nat) (fun i => i ≤ (dh p.text).length) (fun i => (dh p.text).length - i) (fun i => [(7, .list ((mw p.text x b i).map cells) (.tip nx)), (10, .v (.int .i64 (i : Int))), (11, .any), (12, .any)]) (fun i G' => (ai G nx (.tip (mw p.text x b i).length 54 3))) 0 rfl ?_ ?_ ?_ ?_ ?_ ?_
 ·exact Nat.zero_le _
 ·exact zF
 ·exact zX
 ·rintro i hI
  exact zL
 ·rintro i hI
  exact zH
 rintro i hI
 dsimp only at hI ⊢
 refine yS fun _ K7 => ?_
 refine yS fun _ K8 => ?_
 refine yR ?_
 refine yM rfl rfl ?_
 refine yM rfl rfl ?_
 refine aa rfl (bg rfl rfl (List.length_map _)) ?_
 refine aa rfl (cn rfl rfl rfl) ?_
 refine yN ?_
 dsimp only [St.put]
 refine K8 _ ?_
 refine ak rfl (fun hc => ?_) (fun hc => ?_)
 ·replace hc := of_decide_eq_true hc
  obtain ⟨q, hq⟩ : ∃ q, (dh p.text)[i]? = some q := cx (by omega)
  have hfl := uhp p.text x b i
  refine av ?_
  refine K7 _ ?_
  refine yS fun _ K9 => ?_
  refine az ?_
  refine yS fun _ K10 => ?_
  refine f4 [(0, none), (1, none), (2, none), (3, none), (4, none), (5, none), (7, none), (8, none), (9, none), (10, none), (11, none), (12, none), (6, none), (13, none), (14, none), (15, none)] (fun i => [13].contains i) (fun i => [6, 13].contains i) (fun i => [0, 2, 3, 4, 7, 9, 10, 11, 14, 15].contains i) [] (by kernel_rfl) (by kernel_rfl) ?_
  refine ae rfl rfl rfl rfl (cb rfl rfl rfl) ?_
  try dsimp only [St.put]
  refine aw rfl rfl rfl rfl (bv rfl rfl) ?_
  refine xM rfl rfl rfl rfl rfl ?_
  refine xM rfl rfl rfl rfl rfl ?_
  try dsimp only [St.put]
  refine ae rfl rfl rfl rfl (bl rfl rfl rfl rfl (bn (by assumption)) (Enc.len _)) ?_
  try dsimp only [St.put]
  refine aw rfl rfl rfl rfl (d9 rfl rfl (Enc.len _)) ?_
  refine ae rfl rfl rfl rfl (cb rfl rfl rfl) ?_
  try dsimp only [St.put]
  refine aw rfl rfl rfl rfl (bv rfl rfl) ?_
  refine xM rfl rfl rfl rfl rfl ?_
  refine xM rfl rfl rfl rfl rfl ?_
  try dsimp only [St.put]
  refine ae rfl rfl rfl rfl (bl rfl rfl rfl rfl (bn (by assumption)) (Enc.len _)) ?_
  try dsimp only [St.put]
  refine aw rfl rfl rfl rfl (d9 rfl rfl (Enc.len _)) ?_
  refine ij ?_
  try dsimp only [St.put]
  refine g8 rfl rfl rfl (ba rfl rfl rfl (uai x.found q hf) ⟨zD, ?_⟩)
  try dsimp only [St.put]
  refine gt rfl rfl rfl rfl (ba rfl rfl rfl (uai x.well q hw) ?_)
  refine di rfl rfl rfl rfl (gn rfl (by constructor)) ?_
  refine di rfl rfl rfl rfl (gn rfl (by constructor)) ?_
  refine ii ?_
  dsimp only [St.put]
  refine K10 _ ?_
  refine cj 13 ?_
  refine zQ ?_
  refine ix (X := Bool) (fun d => i6 x b q = d) (fun d => [(54, .v (.bool d))]) (fun d G' => G') rfl ?_ (fun _ _ _ _ h => .inl h) ?_ ?_
  ·rintro d hI
   exact zL
  ·refine yR ?_
   refine yM rfl rfl ?_
   refine yM rfl rfl ?_
   refine ep (fun hs => ?_) (fun hs => ?_)
   ·have s1 := hs
    refine yM rfl rfl ?_
    refine aa rfl (ck rfl rfl (by constructor)) ?_
    refine ep (fun hs => ?_) (fun hs => ?_)
    ·have s3 := hs
     refine yM rfl rfl ?_
     refine yK rfl ?_
     refine yK rfl ?_
     refine yK rfl ?_
     refine yK rfl ?_
     refine yK rfl ?_
     refine yK rfl ?_
     refine yK rfl ?_
     refine yK rfl ?_
     refine aa rfl (ck rfl rfl (by constructor)) ?_
     refine yN ?_
     dsimp only [St.put]
     refine ⟨_, ?_, ⟨⟨rfl, rfl⟩, zF, zB, zN, zX⟩⟩
     cases b <;> simp_all [i6]
    have s3 := hs
    refine yM rfl rfl ?_
    refine yM rfl rfl ?_
    refine aa rfl (dv rfl rfl) ?_
    refine ep (fun hs => ?_) (fun hs => ?_)
    ·have s6 := hs
     refine yM rfl rfl ?_
     refine yM rfl rfl ?_
     refine ep (fun hs => ?_) (fun hs => ?_)
     ·have s8 := hs
      refine yM rfl rfl ?_
      refine yK rfl ?_
      refine aa rfl (ck rfl rfl (by constructor)) ?_
      refine aa rfl (ck rfl rfl (by constructor)) ?_
      refine aa rfl (bz rfl rfl (by constructor)) ?_
      refine yN ?_
      dsimp only [St.put]
      refine ⟨_, ?_, ⟨⟨rfl, rfl⟩, zF, zB, zN, zX⟩⟩
      cases b <;> simp_all [i6]
     have s8 := hs
     refine yM rfl rfl ?_
     refine yM rfl rfl ?_
     refine aa rfl (bz rfl rfl (by constructor)) ?_
     refine aa rfl (ck rfl rfl (by constructor)) ?_
     refine aa rfl (bz rfl rfl (by constructor)) ?_
     refine yN ?_
     dsimp only [St.put]
     refine ⟨_, ?_, ⟨⟨rfl, rfl⟩, zF, zB, zN, zX⟩⟩
     cases b <;> simp_all [i6]
    have s6 := hs
    refine yM rfl rfl ?_
    refine yK rfl ?_
    refine yK rfl ?_
    refine yK rfl ?_
    refine yK rfl ?_
    refine aa rfl (bz rfl rfl (by constructor)) ?_
    refine aa rfl (bz rfl rfl (by constructor)) ?_
    refine yN ?_
    dsimp only [St.put]
    refine ⟨_, ?_, ⟨⟨rfl, rfl⟩, zF, zB, zN, zX⟩⟩
    cases b <;> simp_all [i6]
   have s1 := hs
   refine yK rfl ?_
   refine aa rfl (bz rfl rfl (by constructor)) ?_
   refine yM rfl rfl ?_
   refine yM rfl rfl ?_
   refine aa rfl (dv rfl rfl) ?_
   refine ep (fun hs => ?_) (fun hs => ?_)
   ·have s6 := hs
    refine yM rfl rfl ?_
    refine yM rfl rfl ?_
    refine ep (fun hs => ?_) (fun hs => ?_)
    ·have s8 := hs
     refine yM rfl rfl ?_
     refine yK rfl ?_
     refine aa rfl (ck rfl rfl (by constructor)) ?_
     refine aa rfl (ck rfl rfl (by constructor)) ?_
     refine aa rfl (bz rfl rfl (by constructor)) ?_
     refine yN ?_
     dsimp only [St.put]
     refine ⟨_, ?_, ⟨⟨rfl, rfl⟩, zF, zB, zN, zX⟩⟩
     cases b <;> simp_all [i6]
    have s8 := hs
    refine yM rfl rfl ?_
    refine yM rfl rfl ?_
    refine aa rfl (bz rfl rfl (by constructor)) ?_
    refine aa rfl (ck rfl rfl (by constructor)) ?_
    refine aa rfl (bz rfl rfl (by constructor)) ?_
    refine yN ?_
    dsimp only [St.put]
    refine ⟨_, ?_, ⟨⟨rfl, rfl⟩, zF, zB, zN, zX⟩⟩
    cases b <;> simp_all [i6]
   have s6 := hs
   refine yM rfl rfl ?_
   refine yK rfl ?_
   refine yK rfl ?_
   refine yK rfl ?_
   refine yK rfl ?_
   refine aa rfl (bz rfl rfl (by constructor)) ?_
   refine aa rfl (bz rfl rfl (by constructor)) ?_
   refine yN ?_
   dsimp only [St.put]
   refine ⟨_, ?_, ⟨⟨rfl, rfl⟩, zF, zB, zN, zX⟩⟩
   cases b <;> simp_all [i6]
  rintro d hst
  dsimp only at hst ⊢
  refine ak rfl (fun hc => ?_) (fun hc => ?_)
  ·have hb : i6 x b q = true := hst.trans hc
   refine yR ?_
   refine yM rfl rfl ?_
   refine yM rfl rfl ?_
   refine yM rfl rfl ?_
   refine aa rfl (bl rfl rfl rfl rfl (bn (by assumption)) (Enc.len _)) ?_
   refine yE rfl rfl rfl ?_
   try dsimp only [St.put]
   refine af rfl (ef rfl rfl rfl (by decide) (by decide) zR (by decide) ?_)
   try dsimp only [St.put]
   refine af rfl (ma ([q]) rfl rfl zG zE rfl rfl zA ?_ zA)
   refine yA rfl rfl ?_
   refine yN ?_
   dsimp only [St.put]
   refine K9 _ ?_
   refine yR ?_
   refine yM rfl rfl ?_
   refine aa rfl (br rfl rfl rfl (by omega)) ?_
   refine yA rfl rfl ?_
   refine yN ?_
   dsimp only [St.put]
   have e := ub9 (x := x) (b := b) hq
   first
   | (have z : i6 x b q = true := hb
      rw [z, cond_true] at e
      rw [← e]
      exact ⟨i + 1, by omega, by omega, ⟨⟨rfl, rfl⟩, zF, zB, zN, zX⟩⟩)
   | (have z : i6 x b q = false := hb
      rw [z, cond_false, List.append_nil] at e
      rw [← e]
      exact ⟨i + 1, by omega, by omega, ⟨⟨rfl, rfl⟩, zF, zB, zN, zX⟩⟩)
  have hb : i6 x b q = false := hst.trans hc
  refine av ?_
  refine K9 _ ?_
  refine yR ?_
  refine yM rfl rfl ?_
  refine aa rfl (br rfl rfl rfl (by omega)) ?_
  refine yA rfl rfl ?_
  refine yN ?_
  dsimp only [St.put]
  have e := ub9 (x := x) (b := b) hq
  first
  | (have z : i6 x b q = true := hb
     rw [z, cond_true] at e
     rw [← e]
     exact ⟨i + 1, by omega, by omega, ⟨⟨rfl, rfl⟩, zF, zB, zN, zX⟩⟩)
  | (have z : i6 x b q = false := hb
     rw [z, cond_false, List.append_nil] at e
     rw [← e]
     exact ⟨i + 1, by omega, by omega, ⟨⟨rfl, rfl⟩, zF, zB, zN, zX⟩⟩)
 replace hc := of_decide_eq_false hc
 obtain rfl : i = (dh p.text).length := by omega
 have hfin := uhq p.text x b
 refine cr ?_
 refine K5 _ ?_
 refine yS fun _ K12 => ?_
 refine yR ?_
 refine yM rfl rfl ?_
 refine yA rfl rfl ?_
 refine yN ?_
 dsimp only [St.put]
 refine K12 _ ?_
 refine ax ?_
 refine vg rfl (fl (by constructor)) zN zS ?_
 rw [← hfin]
 exact zW
end Go.Proofs.YtgffhbbcpgdjjaaDoor
namespace Go.AB
open Go Go.RowKit
open Go.AB.Enc (cells)
open Go.PB (ay aj PlaceD bh bj bi bx aq am cv co dq dp)
theorem tj {l : List aq} {g : aq → Nat} (k : Nat) : cp (l.take k) g ≤ cp l g := by
 have h : cp l g = cp (l.take k) g + cp (l.drop k) g := by
  unfold cp
  rw [← List.sum_append, ← List.map_append, List.take_append_drop]
 omega
theorem ubq {p : am} {b : Bool} {i : Nat} {r : bx} (h : (cz p b)[i]? = some r) : ku p b i = r.miss := by unfold ku; rw [h]
end Go.AB
namespace Go.Proofs.YtgffhbbcpgdjjaaDoor
set_option maxRecDepth 10000
open Go.RowKit Go.AB
open Go.AB.Enc (cells)
open Go.PB (ay aj PlaceD bh bj bi bx aq am cv co dq dp)
theorem ufr (p : am) (j : Nat) (x : aq) (b : Bool) (i : Int) (hx : p.pages[j]? = some x) : Pure Tryd.prog 76 [val p, .v (.int .i64 (j : Int)), .v (.bool b), .v (.int .i64 i)] (.v (.bool (decide (fp b x = i)))) := by
 refine dm Tryd.func76 rfl (fun m => .v) fun G nx => ?_
 simp only [Tryd.ntmps76, List.length_cons, List.length_nil, Nat.reduceAdd, Nat.reduceSub]
 refine ct fun hlt => ?_
 dsimp only at hlt
 have hjl := (List.getElem?_eq_some_iff.1 hx).1
 refine yS fun _ K1 => ?_
 refine yR ?_
 try dsimp only [St.put]
 refine yB rfl rfl rfl ?_
 refine yA rfl rfl ?_
 refine yN ?_
 dsimp only [St.put]
 refine K1 _ ?_
 refine yS fun _ K2 => ?_
 refine yS fun _ K3 => ?_
 refine yR ?_
 refine yM rfl rfl ?_
 refine yN ?_
 dsimp only [St.put]
 refine K3 _ ?_
 refine ak rfl (fun hc => ?_) (fun hc => ?_)
 ·have hb : b = true := hc
  refine yS fun _ K4 => ?_
  refine yR ?_
  refine yF rfl rfl rfl rfl ?_
  refine yL rfl rfl rfl ?_
  refine yM rfl rfl ?_
  refine aa rfl (bl rfl rfl rfl rfl (bn (by assumption)) (Enc.len _)) ?_
  refine yF rfl rfl rfl rfl ?_
  refine yL rfl rfl rfl ?_
  refine yM rfl rfl ?_
  refine aa rfl (ir rfl rfl rfl) ?_
  refine yA rfl rfl ?_
  refine yN ?_
  dsimp only [St.put]
  refine K4 _ ?_
  refine ax ?_
  refine bp rfl (by constructor) zN zS ?_
  exact vb (by rw [hb]; rfl)
 have hb : b = false := hc
 refine av ?_
 refine K2 _ ?_
 refine yS fun _ K5 => ?_
 refine yR ?_
 refine yF rfl rfl rfl rfl ?_
 refine yL rfl rfl rfl ?_
 refine yM rfl rfl ?_
 refine aa rfl (bl rfl rfl rfl rfl (bn (by assumption)) (Enc.len _)) ?_
 refine yF rfl rfl rfl rfl ?_
 refine yL rfl rfl rfl ?_
 refine yM rfl rfl ?_
 refine aa rfl (ir rfl rfl rfl) ?_
 refine yA rfl rfl ?_
 refine yN ?_
 dsimp only [St.put]
 refine K5 _ ?_
 refine ax ?_
 refine bp rfl (by constructor) zN zS ?_
 exact vb (by rw [hb]; rfl)
theorem ual (p : am) (j : Nat) (x : aq) (ht : dl p.text = true) (hx : p.pages[j]? = some x) (hf : x.found.length ≤ 1000) (hw : x.well.length ≤ 1000) : Pure Tryd.prog 38 [val p, .v (.int .i64 (j : Int)), .v (.bool false)] (lst (ca p.text x)) := uaj p j x false ht hx hf hw
theorem uak (p : am) (j : Nat) (x : aq) (ht : dl p.text = true) (hx : p.pages[j]? = some x) (hf : x.found.length ≤ 1000) (hw : x.well.length ≤ 1000) : Pure Tryd.prog 38 [val p, .v (.int .i64 (j : Int)), .v (.bool true)] (lst (bf p.text x)) := uaj p j x true ht hx hf hw
set_option maxHeartbeats 1000000 in
theorem uft (p : am) (b : Bool) (i : Nat) (h : pt p) (hi : i < (cz p b).length) : Pure Tryd.prog 45 [val p, .v (.bool b), .v (.int .i64 (i : Int))] (.tup [.v (.int .i64 (jz p b i)), .v (.int .i64 (sj p b i))]) := by
 refine dm Tryd.func45 rfl (fun m => .tup (bk .v (bk .v cg))) fun G nx => ?_
 simp only [Tryd.ntmps45, List.length_cons, List.length_nil, Nat.reduceAdd, Nat.reduceSub]
 refine ct fun hlt => ?_
 dsimp only at hlt
 have hown := w8 h b (i : Int)
 have hrd := uah h b (i : Int)
 have hal := km h.text
 have hnp := h.np
 have hmb := xm h b i
 obtain ⟨r, hr⟩ : ∃ r, (cz p b)[i]? = some r := cx hi
 have hmr := ubq hr
 refine yS fun _ K1 => ?_
 refine yR ?_
 try dsimp only [St.put]
 refine yB rfl rfl rfl ?_
 refine yA rfl rfl ?_
 refine yA rfl rfl ?_
 refine yN ?_
 dsimp only [St.put]
 refine K1 _ ?_
 refine yS fun _ K2 => ?_
 refine yR ?_
 refine yA rfl rfl ?_
 refine yA rfl rfl ?_
 refine yN ?_
 dsimp only [St.put]
 refine K2 _ ?_
 refine yS fun _ K3 => ?_
 refine yS fun _ K4 => ?_
 refine yR ?_
 refine yA rfl rfl ?_
 refine yN ?_
 dsimp only [St.put]
 refine K4 _ ?_
 refine az ?_
 refine cj 13 ?_
 refine zQ ?_
 refine db (G) zX ?_
 dsimp only
 refine c7 (X := Nat) (fun k => k ≤ p.pages.length) (fun k => p.pages.length - k) (fun k => [(8, .v (.int .i64 ((cp (p.pages.take k) (dn b (i : Int)) : Nat) : Int))), (9, .v (.int .i64 ((cp (p.pages.take k) (dx p.text b (i : Int)) : Nat) : Int))), (10, .v (.int .i64 (k : Int)))]) (fun k G' => G') 0 rfl ?_ ?_ (fun _ _ h => h) ?_ ?_ ?_
 ·exact Nat.zero_le _
 ·exact zF
 ·rintro k hI
  exact zL
 ·exact fun _ _ _ _ h => .inl h
 rintro k hI
 dsimp only at hI ⊢
 refine yS fun _ K5 => ?_
 refine yS fun _ K6 => ?_
 refine yR ?_
 refine yM rfl rfl ?_
 refine yF rfl rfl rfl rfl ?_
 refine yL rfl rfl rfl ?_
 refine aa rfl (bg rfl rfl (List.length_map _)) ?_
 refine aa rfl (cn rfl rfl rfl) ?_
 refine yN ?_
 dsimp only [St.put]
 refine K6 _ ?_
 refine ak rfl (fun hc => ?_) (fun hc => ?_)
 ·replace hc := of_decide_eq_true hc
  obtain ⟨x, hx⟩ : ∃ x, p.pages[k]? = some x := cx (by omega)
  have hp := pageB_true.1 (h.page k x hx)
  have hfl := io hp.found
  have hwl := io hp.well
  have hgl := pp p.text x
  have ht1 := tj (l := p.pages) (g := dn b (i : Int)) k
  have ht2 := tj (l := p.pages) (g := dx p.text b (i : Int)) k
  refine av ?_
  refine K5 _ ?_
  refine yS fun _ K7 => ?_
  refine az ?_
  refine yS fun _ K8 => ?_
  refine yS fun _ K9 => ?_
  refine yR ?_
  refine yE rfl rfl rfl ?_
  refine yM rfl rfl ?_
  refine yM rfl rfl ?_
  refine yM rfl rfl ?_
  try dsimp only [St.put]
  refine af rfl (ba rfl rfl rfl (ufr p k x b (i : Int) hx) ?_)
  refine aa rfl (dv rfl rfl) ?_
  refine yN ?_
  dsimp only [St.put]
  refine K9 _ ?_
  refine ak rfl (fun hc => ?_) (fun hc => ?_)
  ·have hno : ¬ fp b x = (i : Int) := by simpa using hc
   refine cr ?_
   refine K7 _ ?_
   refine yR ?_
   refine yM rfl rfl ?_
   refine aa rfl (br rfl rfl rfl (by omega)) ?_
   refine yA rfl rfl ?_
   refine yN ?_
   dsimp only [St.put]
   have e1 := ml (g := dn b (i : Int)) hx
   have e2 := ml (g := dx p.text b (i : Int)) hx
   first
   | (have z : ¬ fp b x = (i : Int) := hno
      rw [show cp (p.pages.take k) (dn b (i : Int)) = cp (p.pages.take (k + 1)) (dn b (i : Int)) by rw [e1]; unfold dn; rw [decide_eq_false z]; rfl, show cp (p.pages.take k) (dx p.text b (i : Int)) = cp (p.pages.take (k + 1)) (dx p.text b (i : Int)) by rw [e2]; unfold dx; rw [decide_eq_false z]; rfl]
      exact ⟨k + 1, by omega, by omega, ⟨⟨rfl, rfl⟩, zF, zB, zN, zX⟩⟩)
   | (have z : b = true := hb
      rw [show ((cp (p.pages.take k) (dn b (i : Int)) : Nat) : Int) + (x.well.length : Int) = ((cp (p.pages.take (k + 1)) (dn b (i : Int)) : Nat) : Int) by rw [e1]; unfold dn; rw [decide_eq_true hyes, cond_true, z]; rfl, show ((cp (p.pages.take k) (dx p.text b (i : Int)) : Nat) : Int) + ((ca p.text x).length : Int) = ((cp (p.pages.take (k + 1)) (dx p.text b (i : Int)) : Nat) : Int) by rw [e2]; unfold dx; rw [decide_eq_true hyes, cond_true]; rfl]
      exact ⟨k + 1, by omega, by omega, ⟨⟨rfl, rfl⟩, zF, zB, zN, zX⟩⟩)
   | (have z : b = false := hb
      rw [show ((cp (p.pages.take k) (dn b (i : Int)) : Nat) : Int) + (x.found.length : Int) = ((cp (p.pages.take (k + 1)) (dn b (i : Int)) : Nat) : Int) by rw [e1]; unfold dn; rw [decide_eq_true hyes, cond_true, z]; rfl, show ((cp (p.pages.take k) (dx p.text b (i : Int)) : Nat) : Int) + ((ca p.text x).length : Int) = ((cp (p.pages.take (k + 1)) (dx p.text b (i : Int)) : Nat) : Int) by rw [e2]; unfold dx; rw [decide_eq_true hyes, cond_true]; rfl]
      exact ⟨k + 1, by omega, by omega, ⟨⟨rfl, rfl⟩, zF, zB, zN, zX⟩⟩)
  have hyes : fp b x = (i : Int) := by simpa using hc
  refine av ?_
  refine K8 _ ?_
  refine yS fun _ K10 => ?_
  refine yR ?_
  refine yM rfl rfl ?_
  refine yE rfl rfl rfl ?_
  refine yM rfl rfl ?_
  try dsimp only [St.put]
  refine af rfl (ba rfl rfl rfl (ual p k x h.text hx (by omega) (by omega)) ?_)
  refine aa rfl (bg rfl rfl (List.length_map _)) ?_
  refine aa rfl (br rfl rfl rfl (by omega)) ?_
  refine yA rfl rfl ?_
  refine yN ?_
  dsimp only [St.put]
  refine K10 _ ?_
  refine yS fun _ K11 => ?_
  refine yR ?_
  refine yM rfl rfl ?_
  refine yN ?_
  dsimp only [St.put]
  refine K11 _ ?_
  refine ak rfl (fun hc => ?_) (fun hc => ?_)
  ·have hb : b = true := hc
   refine yR ?_
   refine yM rfl rfl ?_
   refine yF rfl rfl rfl rfl ?_
   refine yL rfl rfl rfl ?_
   refine yM rfl rfl ?_
   refine aa rfl (bl rfl rfl rfl rfl (bn (by assumption)) (Enc.len _)) ?_
   refine yF rfl rfl rfl rfl ?_
   refine yL rfl rfl rfl ?_
   refine aa rfl (bg rfl rfl (List.length_map _)) ?_
   refine aa rfl (br rfl rfl rfl (by omega)) ?_
   refine yA rfl rfl ?_
   refine yN ?_
   dsimp only [St.put]
   refine K7 _ ?_
   refine yR ?_
   refine yM rfl rfl ?_
   refine aa rfl (br rfl rfl rfl (by omega)) ?_
   refine yA rfl rfl ?_
   refine yN ?_
   dsimp only [St.put]
   have e1 := ml (g := dn b (i : Int)) hx
   have e2 := ml (g := dx p.text b (i : Int)) hx
   first
   | (have z : ¬ fp b x = (i : Int) := hno
      rw [show cp (p.pages.take k) (dn b (i : Int)) = cp (p.pages.take (k + 1)) (dn b (i : Int)) by rw [e1]; unfold dn; rw [decide_eq_false z]; rfl, show cp (p.pages.take k) (dx p.text b (i : Int)) = cp (p.pages.take (k + 1)) (dx p.text b (i : Int)) by rw [e2]; unfold dx; rw [decide_eq_false z]; rfl]
      exact ⟨k + 1, by omega, by omega, ⟨⟨rfl, rfl⟩, zF, zB, zN, zX⟩⟩)
   | (have z : b = true := hb
      rw [show ((cp (p.pages.take k) (dn b (i : Int)) : Nat) : Int) + (x.well.length : Int) = ((cp (p.pages.take (k + 1)) (dn b (i : Int)) : Nat) : Int) by rw [e1]; unfold dn; rw [decide_eq_true hyes, cond_true, z]; rfl, show ((cp (p.pages.take k) (dx p.text b (i : Int)) : Nat) : Int) + ((ca p.text x).length : Int) = ((cp (p.pages.take (k + 1)) (dx p.text b (i : Int)) : Nat) : Int) by rw [e2]; unfold dx; rw [decide_eq_true hyes, cond_true]; rfl]
      exact ⟨k + 1, by omega, by omega, ⟨⟨rfl, rfl⟩, zF, zB, zN, zX⟩⟩)
   | (have z : b = false := hb
      rw [show ((cp (p.pages.take k) (dn b (i : Int)) : Nat) : Int) + (x.found.length : Int) = ((cp (p.pages.take (k + 1)) (dn b (i : Int)) : Nat) : Int) by rw [e1]; unfold dn; rw [decide_eq_true hyes, cond_true, z]; rfl, show ((cp (p.pages.take k) (dx p.text b (i : Int)) : Nat) : Int) + ((ca p.text x).length : Int) = ((cp (p.pages.take (k + 1)) (dx p.text b (i : Int)) : Nat) : Int) by rw [e2]; unfold dx; rw [decide_eq_true hyes, cond_true]; rfl]
      exact ⟨k + 1, by omega, by omega, ⟨⟨rfl, rfl⟩, zF, zB, zN, zX⟩⟩)
  have hb : b = false := hc
  refine yR ?_
  refine yM rfl rfl ?_
  refine yF rfl rfl rfl rfl ?_
  refine yL rfl rfl rfl ?_
  refine yM rfl rfl ?_
  refine aa rfl (bl rfl rfl rfl rfl (bn (by assumption)) (Enc.len _)) ?_
  refine yF rfl rfl rfl rfl ?_
  refine yL rfl rfl rfl ?_
  refine aa rfl (bg rfl rfl (List.length_map _)) ?_
  refine aa rfl (br rfl rfl rfl (by omega)) ?_
  refine yA rfl rfl ?_
  refine yN ?_
  dsimp only [St.put]
  refine K7 _ ?_
  refine yR ?_
  refine yM rfl rfl ?_
  refine aa rfl (br rfl rfl rfl (by omega)) ?_
  refine yA rfl rfl ?_
  refine yN ?_
  dsimp only [St.put]
  have e1 := ml (g := dn b (i : Int)) hx
  have e2 := ml (g := dx p.text b (i : Int)) hx
  first
  | (have z : ¬ fp b x = (i : Int) := hno
     rw [show cp (p.pages.take k) (dn b (i : Int)) = cp (p.pages.take (k + 1)) (dn b (i : Int)) by rw [e1]; unfold dn; rw [decide_eq_false z]; rfl, show cp (p.pages.take k) (dx p.text b (i : Int)) = cp (p.pages.take (k + 1)) (dx p.text b (i : Int)) by rw [e2]; unfold dx; rw [decide_eq_false z]; rfl]
     exact ⟨k + 1, by omega, by omega, ⟨⟨rfl, rfl⟩, zF, zB, zN, zX⟩⟩)
  | (have z : b = true := hb
     rw [show ((cp (p.pages.take k) (dn b (i : Int)) : Nat) : Int) + (x.well.length : Int) = ((cp (p.pages.take (k + 1)) (dn b (i : Int)) : Nat) : Int) by rw [e1]; unfold dn; rw [decide_eq_true hyes, cond_true, z]; rfl, show ((cp (p.pages.take k) (dx p.text b (i : Int)) : Nat) : Int) + ((ca p.text x).length : Int) = ((cp (p.pages.take (k + 1)) (dx p.text b (i : Int)) : Nat) : Int) by rw [e2]; unfold dx; rw [decide_eq_true hyes, cond_true]; rfl]
     exact ⟨k + 1, by omega, by omega, ⟨⟨rfl, rfl⟩, zF, zB, zN, zX⟩⟩)
  | (have z : b = false := hb
     rw [show ((cp (p.pages.take k) (dn b (i : Int)) : Nat) : Int) + (x.found.length : Int) = ((cp (p.pages.take (k + 1)) (dn b (i : Int)) : Nat) : Int) by rw [e1]; unfold dn; rw [decide_eq_true hyes, cond_true, z]; rfl, show ((cp (p.pages.take k) (dx p.text b (i : Int)) : Nat) : Int) + ((ca p.text x).length : Int) = ((cp (p.pages.take (k + 1)) (dx p.text b (i : Int)) : Nat) : Int) by rw [e2]; unfold dx; rw [decide_eq_true hyes, cond_true]; rfl]
     exact ⟨k + 1, by omega, by omega, ⟨⟨rfl, rfl⟩, zF, zB, zN, zX⟩⟩)
 replace hc := of_decide_eq_false hc
 obtain rfl : k = p.pages.length := by omega
 refine cr ?_
 refine K3 _ ?_
 refine yS fun _ K12 => ?_
 refine yR ?_
 refine yA rfl rfl ?_
 refine yN ?_
 dsimp only [St.put]
 rw [f8 (Nat.le_refl p.pages.length)]
 refine K12 _ ?_
 refine yS fun _ K13 => ?_
 refine yS fun _ K14 => ?_
 refine yR ?_
 refine yM rfl rfl ?_
 refine yN ?_
 dsimp only [St.put]
 refine K14 _ ?_
 refine ak rfl (fun hc => ?_) (fun hc => ?_)
 ·have hb2 : b = true := hc
  have hr2 : p.seconds[i]? = some r := by rw [hb2] at hr; exact hr
  have hil := (List.getElem?_eq_some_iff.1 hr2).1
  refine yR ?_
  refine yF rfl rfl rfl rfl ?_
  refine yL rfl rfl rfl ?_
  refine yM rfl rfl ?_
  refine aa rfl (bl rfl rfl rfl rfl (bn (by assumption)) (Enc.len _)) ?_
  refine yF rfl rfl rfl rfl ?_
  refine yL rfl rfl rfl ?_
  refine yA rfl rfl ?_
  refine yN ?_
  dsimp only [St.put]
  refine K13 _ ?_
  refine yS fun _ K15 => ?_
  refine yR ?_
  refine yM rfl rfl ?_
  refine aa rfl (sd rfl rfl rfl (by omega)) ?_
  refine yM rfl rfl ?_
  refine aa rfl (gm rfl rfl rfl (by omega)) ?_
  refine aa rfl (pj rfl rfl rfl (by omega) (by omega)) ?_
  refine yA rfl rfl ?_
  refine yN ?_
  dsimp only [St.put]
  rw [show (100 * ((cp p.pages (dn b (i : Int)) : Nat) : Int)) / (100 - r.miss) = jz p b i by unfold jz; rw [hmr]]
  have hbd := ym h b i
  refine K15 _ ?_
  refine yS fun _ K16 => ?_
  refine yR ?_
  refine yM rfl rfl ?_
  refine yM rfl rfl ?_
  refine yM rfl rfl ?_
  refine aa rfl (gm rfl rfl rfl (by omega)) ?_
  refine yA rfl rfl ?_
  refine yA rfl rfl ?_
  refine yN ?_
  dsimp only [St.put]
  refine K16 _ ?_
  refine ax ?_
  refine gx rfl (by constructor) (by constructor) zN zS ?_ ?_
  ·rfl
  exact vi (by unfold sj; rfl)
 have hb2 : b = false := hc
 have hr2 : p.firsts[i]? = some r := by rw [hb2] at hr; exact hr
 have hil := (List.getElem?_eq_some_iff.1 hr2).1
 refine yR ?_
 refine yF rfl rfl rfl rfl ?_
 refine yL rfl rfl rfl ?_
 refine yM rfl rfl ?_
 refine aa rfl (bl rfl rfl rfl rfl (bn (by assumption)) (Enc.len _)) ?_
 refine yF rfl rfl rfl rfl ?_
 refine yL rfl rfl rfl ?_
 refine yA rfl rfl ?_
 refine yN ?_
 dsimp only [St.put]
 refine K13 _ ?_
 refine yS fun _ K17 => ?_
 refine yR ?_
 refine yM rfl rfl ?_
 refine aa rfl (sd rfl rfl rfl (by omega)) ?_
 refine yM rfl rfl ?_
 refine aa rfl (gm rfl rfl rfl (by omega)) ?_
 refine aa rfl (pj rfl rfl rfl (by omega) (by omega)) ?_
 refine yA rfl rfl ?_
 refine yN ?_
 dsimp only [St.put]
 rw [show (100 * ((cp p.pages (dn b (i : Int)) : Nat) : Int)) / (100 - r.miss) = jz p b i by unfold jz; rw [hmr]]
 have hbd := ym h b i
 refine K17 _ ?_
 refine yS fun _ K18 => ?_
 refine yR ?_
 refine yM rfl rfl ?_
 refine yM rfl rfl ?_
 refine yM rfl rfl ?_
 refine aa rfl (gm rfl rfl rfl (by omega)) ?_
 refine yA rfl rfl ?_
 refine yA rfl rfl ?_
 refine yN ?_
 dsimp only [St.put]
 refine K18 _ ?_
 refine ax ?_
 refine gx rfl (by constructor) (by constructor) zN zS ?_ ?_
 ·rfl
 exact vi (by unfold sj; rfl)
end Go.Proofs.YtgffhbbcpgdjjaaDoor
namespace Go.Proofs.YtgffhbbcpgdjjaaDoor
set_option maxRecDepth 10000
open Go Go.RowKit Go.AB
open Go.AB.Enc (cells)
open Go.PB (ay aj PlaceD bh bj bi bx aq am cv co dq dp)
theorem ue1 (p : am) : Pure Tryd.prog 145 [val p] (lst p.firsts) := by
 refine dm Tryd.func145 rfl (fun m => (ar _ _)) fun G nx => ?_
 simp only [Tryd.ntmps145, List.length_cons, List.length_nil, Nat.reduceAdd, Nat.reduceSub]
 refine ct fun hlt => ?_
 dsimp only at hlt
 refine yS fun _ K1 => ?_
 refine yR ?_
 try dsimp only [St.put]
 refine yB rfl rfl rfl ?_
 refine yA rfl rfl ?_
 refine yN ?_
 dsimp only [St.put]
 refine K1 _ ?_
 refine yS fun _ K2 => ?_
 refine yR ?_
 refine yF rfl rfl rfl rfl ?_
 refine yL rfl rfl rfl ?_
 refine yA rfl rfl ?_
 refine yN ?_
 dsimp only [St.put]
 refine K2 _ ?_
 refine ax ?_
 refine bp rfl (by constructor) zN zS ?_
 rfl
theorem ue0 (x : aq) : Pure Tryd.prog 146 [val x] (.v (.int .i64 x.fst)) := by
 refine dm Tryd.func146 rfl (fun m => .v) fun G nx => ?_
 simp only [Tryd.ntmps146, List.length_cons, List.length_nil, Nat.reduceAdd, Nat.reduceSub]
 refine ct fun hlt => ?_
 dsimp only at hlt
 refine yS fun _ K1 => ?_
 refine yR ?_
 try dsimp only [St.put]
 refine yB rfl rfl rfl ?_
 refine yA rfl rfl ?_
 refine yN ?_
 dsimp only [St.put]
 refine K1 _ ?_
 refine yS fun _ K2 => ?_
 refine yR ?_
 refine yF rfl rfl rfl rfl ?_
 refine yL rfl rfl rfl ?_
 refine yA rfl rfl ?_
 refine yN ?_
 dsimp only [St.put]
 refine K2 _ ?_
 refine ax ?_
 refine bp rfl (by constructor) zN zS ?_
 rfl
theorem uez (x : aq) : Pure Tryd.prog 147 [val x] (lst x.found) := by
 refine dm Tryd.func147 rfl (fun m => (ar _ _)) fun G nx => ?_
 simp only [Tryd.ntmps147, List.length_cons, List.length_nil, Nat.reduceAdd, Nat.reduceSub]
 refine ct fun hlt => ?_
 dsimp only at hlt
 refine yS fun _ K1 => ?_
 refine yR ?_
 try dsimp only [St.put]
 refine yB rfl rfl rfl ?_
 refine yA rfl rfl ?_
 refine yN ?_
 dsimp only [St.put]
 refine K1 _ ?_
 refine yS fun _ K2 => ?_
 refine yR ?_
 refine yF rfl rfl rfl rfl ?_
 refine yL rfl rfl rfl ?_
 refine yA rfl rfl ?_
 refine yN ?_
 dsimp only [St.put]
 refine K2 _ ?_
 refine ax ?_
 refine bp rfl (by constructor) zN zS ?_
 rfl
theorem uey (p : am) : Pure Tryd.prog 148 [val p] (lst p.seconds) := by
 refine dm Tryd.func148 rfl (fun m => (ar _ _)) fun G nx => ?_
 simp only [Tryd.ntmps148, List.length_cons, List.length_nil, Nat.reduceAdd, Nat.reduceSub]
 refine ct fun hlt => ?_
 dsimp only at hlt
 refine yS fun _ K1 => ?_
 refine yR ?_
 try dsimp only [St.put]
 refine yB rfl rfl rfl ?_
 refine yA rfl rfl ?_
 refine yN ?_
 dsimp only [St.put]
 refine K1 _ ?_
 refine yS fun _ K2 => ?_
 refine yR ?_
 refine yF rfl rfl rfl rfl ?_
 refine yL rfl rfl rfl ?_
 refine yA rfl rfl ?_
 refine yN ?_
 dsimp only [St.put]
 refine K2 _ ?_
 refine ax ?_
 refine bp rfl (by constructor) zN zS ?_
 rfl
theorem uex (x : aq) : Pure Tryd.prog 149 [val x] (.v (.int .i64 x.snd)) := by
 refine dm Tryd.func149 rfl (fun m => .v) fun G nx => ?_
 simp only [Tryd.ntmps149, List.length_cons, List.length_nil, Nat.reduceAdd, Nat.reduceSub]
 refine ct fun hlt => ?_
 dsimp only at hlt
 refine yS fun _ K1 => ?_
 refine yR ?_
 try dsimp only [St.put]
 refine yB rfl rfl rfl ?_
 refine yA rfl rfl ?_
 refine yN ?_
 dsimp only [St.put]
 refine K1 _ ?_
 refine yS fun _ K2 => ?_
 refine yR ?_
 refine yF rfl rfl rfl rfl ?_
 refine yL rfl rfl rfl ?_
 refine yA rfl rfl ?_
 refine yN ?_
 dsimp only [St.put]
 refine K2 _ ?_
 refine ax ?_
 refine bp rfl (by constructor) zN zS ?_
 rfl
theorem uew (x : aq) : Pure Tryd.prog 150 [val x] (lst x.well) := by
 refine dm Tryd.func150 rfl (fun m => (ar _ _)) fun G nx => ?_
 simp only [Tryd.ntmps150, List.length_cons, List.length_nil, Nat.reduceAdd, Nat.reduceSub]
 refine ct fun hlt => ?_
 dsimp only at hlt
 refine yS fun _ K1 => ?_
 refine yR ?_
 try dsimp only [St.put]
 refine yB rfl rfl rfl ?_
 refine yA rfl rfl ?_
 refine yN ?_
 dsimp only [St.put]
 refine K1 _ ?_
 refine yS fun _ K2 => ?_
 refine yR ?_
 refine yF rfl rfl rfl rfl ?_
 refine yL rfl rfl rfl ?_
 refine yA rfl rfl ?_
 refine yN ?_
 dsimp only [St.put]
 refine K2 _ ?_
 refine ax ?_
 refine bp rfl (by constructor) zN zS ?_
 rfl
def sRd (b : Bool) : FuncId := bif b then 148 else 145
def sFt (b : Bool) : FuncId := bif b then 149 else 146
def sFd (b : Bool) : FuncId := bif b then 150 else 147
instance (b : Bool) : Fun Tryd.prog (sRd b) := by
 cases b
 ·exact inferInstanceAs (Fun Tryd.prog 145)
 exact inferInstanceAs (Fun Tryd.prog 148)
instance (b : Bool) : Fun Tryd.prog (sFt b) := by
 cases b
 ·exact inferInstanceAs (Fun Tryd.prog 146)
 exact inferInstanceAs (Fun Tryd.prog 149)
instance (b : Bool) : Fun Tryd.prog (sFd b) := by
 cases b
 ·exact inferInstanceAs (Fun Tryd.prog 147)
 exact inferInstanceAs (Fun Tryd.prog 150)
theorem oh (b : Bool) (p : am) : Pure Tryd.prog (sRd b) [val p] (lst (cz p b)) := by
 cases b
 ·exact ue1 p
 exact uey p
theorem wt (b : Bool) (x : aq) : Pure Tryd.prog (sFt b) [val x] (.v (.int .i64 (fp b x))) := by
 cases b
 ·exact ue0 x
 exact uex x
theorem wu (b : Bool) (x : aq) : Pure Tryd.prog (sFd b) [val x] (lst (bu b x)) := by
 cases b
 ·exact uez x
 exact uew x
abbrev m9 (b : Bool) : List C := [.fn (.func (sRd b)) [], .fn (.func (sFt b)) [], .fn (.func (sFd b)) []]
abbrev sidL : List C := m9 false ++ m9 true
abbrev j8 : GObj := .fact (.pointer (some ⟨0, 0, none⟩)) (.elem sidL)
abbrev offC (p : am) : List C := [lst p.text, lst p.firsts, lst p.seconds, lst p.pages, lst (p.pages.map fun x => (dw p.text x : Int)), lst (p.pages.map (ca p.text)), lst (p.pages.map (bf p.text))]
theorem tr : ∀ {k : Nat}, k < 2 → (sidL.drop (k * 3)).take 3 = m9 (decide (k = 1))
 | 0, _ => rfl
 | 1, _ => rfl
 | k + 2, h => by omega
set_option maxHeartbeats 1000000 in
theorem uf3 (p : am) (b : Bool) (i : Nat) (h : pt p) (hi : i < (cz p b).length) : Pure Tryd.prog 43 [.elem (offC p), .agg (m9 b), .v (.int .i64 (i : Int))] (.tup [.v (.int .i64 (jz p b i)), .v (.int .i64 (sj p b i))]) := by
 refine dm Tryd.func43 rfl (fun m => .tup (bk .v (bk .v cg))) fun G nx => ?_
 simp only [Tryd.ntmps43, List.length_cons, List.length_nil, Nat.reduceAdd, Nat.reduceSub]
 refine ct fun hlt => ?_
 dsimp only at hlt
 have hown := w8 h b (i : Int)
 have hrd := uah h b (i : Int)
 have hal := km h.text
 have hnp := h.np
 have hmb := xm h b i
 obtain ⟨r, hr⟩ : ∃ r, (cz p b)[i]? = some r := cx hi
 have hmr := ubq hr
 refine yS fun _ K1 => ?_
 refine yR ?_
 try dsimp only [St.put]
 refine yB rfl rfl rfl ?_
 refine yA rfl rfl ?_
 refine yA rfl rfl ?_
 refine yN ?_
 dsimp only [St.put]
 refine K1 _ ?_
 refine yS fun _ K2 => ?_
 refine yR ?_
 refine yA rfl rfl ?_
 refine yA rfl rfl ?_
 refine yN ?_
 dsimp only [St.put]
 refine K2 _ ?_
 refine yS fun _ K3 => ?_
 refine yS fun _ K4 => ?_
 refine yR ?_
 refine yM rfl rfl ?_
 refine aa rfl (ni rfl rfl) ?_
 refine yF rfl rfl rfl rfl ?_
 refine yF rfl rfl rfl rfl ?_
 refine yL rfl rfl rfl ?_
 refine aa rfl (bg rfl rfl (List.length_map _)) ?_
 refine yM rfl rfl ?_
 refine yN ?_
 dsimp only [St.put]
 refine K4 _ ?_
 refine az ?_
 refine cj 20 ?_
 refine zQ ?_
 refine db (G) zX ?_
 dsimp only
 refine c7 (X := Nat) (fun k => k ≤ p.pages.length) (fun k => p.pages.length - k) (fun k => [(8, .v (.int .i64 ((cp (p.pages.take k) (dn b (i : Int)) : Nat) : Int))), (9, .v (.int .i64 ((cp (p.pages.take k) (dx p.text b (i : Int)) : Nat) : Int))), (10, .any), (11, .any), (19, .v (.int .i64 (k : Int)))]) (fun k G' => G') 0 rfl ?_ ?_ (fun _ _ h => h) ?_ ?_ ?_
 ·exact Nat.zero_le _
 ·exact zF
 ·rintro k hI
  exact zL
 ·exact fun _ _ _ _ h => .inl h
 rintro k hI
 dsimp only at hI ⊢
 refine yS fun _ K5 => ?_
 refine yR ?_
 refine aa rfl (cn rfl rfl rfl) ?_
 refine yN ?_
 dsimp only [St.put]
 refine K5 _ ?_
 refine yS fun _ K6 => ?_
 refine ak rfl (fun hc => ?_) (fun hc => ?_)
 ·replace hc := of_decide_eq_true hc
  obtain ⟨x, hx⟩ : ∃ x, p.pages[k]? = some x := cx (by omega)
  have hax : (p.pages.map (ca p.text))[k]? = some (ca p.text x) := by rw [List.getElem?_map, hx]; rfl
  have hp := pageB_true.1 (h.page k x hx)
  have hfd : (bu b x).length ≤ 600 := by
   have hfl := io hp.found
   have hwl := io hp.well
   cases b
   ·show x.found.length ≤ 600
    omega
   show x.well.length ≤ 600
   omega
  have hgl := pp p.text x
  have ht1 := tj (l := p.pages) (g := dn b (i : Int)) k
  have ht2 := tj (l := p.pages) (g := dx p.text b (i : Int)) k
  refine av ?_
  refine K6 _ ?_
  refine yS fun _ K7 => ?_
  refine az ?_
  refine yS fun _ K8 => ?_
  refine yR ?_
  refine yM rfl rfl ?_
  refine aa rfl (bl rfl rfl rfl rfl (bn (by assumption)) (Enc.len _)) ?_
  refine yE rfl rfl rfl ?_
  try dsimp only [St.put]
  refine af rfl (eh rfl ?_)
  refine yA rfl rfl ?_
  try dsimp only [St.put]
  refine af rfl (dt rfl rfl rfl zG rfl rfl (by rfl) ?_)
  refine yN ?_
  dsimp only [St.put]
  refine K8 _ ?_
  refine eo (i := 11) rfl zG zC ?_
  dsimp only
  refine yS fun _ K9 => ?_
  refine yR ?_
  refine yF rfl rfl rfl rfl ?_
  refine yL rfl rfl rfl ?_
  refine yE rfl rfl rfl ?_
  try dsimp only [St.put]
  refine af rfl (ba rfl rfl rfl (wt b x) ?_)
  refine yM rfl rfl ?_
  refine aa rfl (ir rfl rfl rfl) ?_
  refine yN ?_
  dsimp only [St.put]
  refine K9 _ ?_
  refine ak rfl (fun hc => ?_) (fun hc => ?_)
  ·have hyes : fp b x = (i : Int) := of_decide_eq_true hc
   refine yS fun _ K10 => ?_
   refine yR ?_
   refine yM rfl rfl ?_
   refine yF rfl rfl rfl rfl ?_
   refine yL rfl rfl rfl ?_
   refine yE rfl rfl rfl ?_
   try dsimp only [St.put]
   refine af rfl (ba rfl rfl rfl (wu b x) ?_)
   refine aa rfl (bg rfl rfl (List.length_map _)) ?_
   refine aa rfl (br rfl rfl rfl (by omega)) ?_
   refine yA rfl rfl ?_
   refine yN ?_
   dsimp only [St.put]
   refine K10 _ ?_
   refine yR ?_
   refine yM rfl rfl ?_
   refine yM rfl rfl ?_
   refine aa rfl (ni rfl rfl) ?_
   refine yF rfl rfl rfl rfl ?_
   refine yL rfl rfl rfl ?_
   refine yM rfl rfl ?_
   refine aa rfl (bl rfl rfl rfl rfl (bn (by assumption)) (Enc.len _)) ?_
   refine yL rfl rfl rfl ?_
   refine aa rfl (bg rfl rfl (List.length_map _)) ?_
   refine aa rfl (br rfl rfl rfl (by omega)) ?_
   refine yA rfl rfl ?_
   refine yN ?_
   dsimp only [St.put]
   refine K7 _ ?_
   refine yR ?_
   refine aa rfl (br rfl rfl rfl (by omega)) ?_
   refine yM rfl rfl ?_
   refine yN ?_
   dsimp only [St.put]
   have e1 := ml (g := dn b (i : Int)) hx
   have e2 := ml (g := dx p.text b (i : Int)) hx
   first
   | (have z : fp b x = (i : Int) := hyes
      rw [show ((cp (p.pages.take k) (dn b (i : Int)) : Nat) : Int) + ((bu b x).length : Int) = ((cp (p.pages.take (k + 1)) (dn b (i : Int)) : Nat) : Int) by rw [e1]; unfold dn; rw [decide_eq_true z, cond_true]; rfl, show ((cp (p.pages.take k) (dx p.text b (i : Int)) : Nat) : Int) + ((ca p.text x).length : Int) = ((cp (p.pages.take (k + 1)) (dx p.text b (i : Int)) : Nat) : Int) by rw [e2]; unfold dx; rw [decide_eq_true z, cond_true]; rfl]
      exact ⟨k + 1, by omega, by omega, ⟨⟨rfl, rfl⟩, zF, zB, zN, zX⟩⟩)
   | (have z : ¬ fp b x = (i : Int) := hno
      rw [show cp (p.pages.take k) (dn b (i : Int)) = cp (p.pages.take (k + 1)) (dn b (i : Int)) by rw [e1]; unfold dn; rw [decide_eq_false z]; rfl, show cp (p.pages.take k) (dx p.text b (i : Int)) = cp (p.pages.take (k + 1)) (dx p.text b (i : Int)) by rw [e2]; unfold dx; rw [decide_eq_false z]; rfl]
      exact ⟨k + 1, by omega, by omega, ⟨⟨rfl, rfl⟩, zF, zB, zN, zX⟩⟩)
  have hno : ¬ fp b x = (i : Int) := of_decide_eq_false hc
  refine av ?_
  refine K7 _ ?_
  refine yR ?_
  refine aa rfl (br rfl rfl rfl (by omega)) ?_
  refine yM rfl rfl ?_
  refine yN ?_
  dsimp only [St.put]
  have e1 := ml (g := dn b (i : Int)) hx
  have e2 := ml (g := dx p.text b (i : Int)) hx
  first
  | (have z : fp b x = (i : Int) := hyes
     rw [show ((cp (p.pages.take k) (dn b (i : Int)) : Nat) : Int) + ((bu b x).length : Int) = ((cp (p.pages.take (k + 1)) (dn b (i : Int)) : Nat) : Int) by rw [e1]; unfold dn; rw [decide_eq_true z, cond_true]; rfl, show ((cp (p.pages.take k) (dx p.text b (i : Int)) : Nat) : Int) + ((ca p.text x).length : Int) = ((cp (p.pages.take (k + 1)) (dx p.text b (i : Int)) : Nat) : Int) by rw [e2]; unfold dx; rw [decide_eq_true z, cond_true]; rfl]
     exact ⟨k + 1, by omega, by omega, ⟨⟨rfl, rfl⟩, zF, zB, zN, zX⟩⟩)
  | (have z : ¬ fp b x = (i : Int) := hno
     rw [show cp (p.pages.take k) (dn b (i : Int)) = cp (p.pages.take (k + 1)) (dn b (i : Int)) by rw [e1]; unfold dn; rw [decide_eq_false z]; rfl, show cp (p.pages.take k) (dx p.text b (i : Int)) = cp (p.pages.take (k + 1)) (dx p.text b (i : Int)) by rw [e2]; unfold dx; rw [decide_eq_false z]; rfl]
     exact ⟨k + 1, by omega, by omega, ⟨⟨rfl, rfl⟩, zF, zB, zN, zX⟩⟩)
 replace hc := of_decide_eq_false hc
 obtain rfl : k = p.pages.length := by omega
 rw [f8 (Nat.le_refl p.pages.length)]
 refine cr ?_
 refine K3 _ ?_
 refine yS fun _ K11 => ?_
 refine f4 [(0, none), (1, none), (2, none), (3, none), (4, none), (5, none), (6, none), (7, none), (9, none), (8, none), (10, none), (11, none), (12, none), (13, none), (14, none), (15, none)] (fun i => [8, 12].contains i) (fun i => [8, 12].contains i) (fun i => [0, 1, 2, 4, 5, 6, 9, 10, 11, 13, 14, 15].contains i) [] (by kernel_rfl) (by kernel_rfl) ?_
 refine xM rfl rfl rfl rfl rfl ?_
 refine ae rfl rfl rfl rfl (sd rfl rfl rfl (by omega)) ?_
 refine ae rfl rfl rfl rfl (cb rfl rfl rfl) ?_
 try dsimp only [St.put]
 refine aw rfl rfl rfl rfl (bv rfl rfl) ?_
 refine xM rfl rfl rfl rfl rfl ?_
 refine ae rfl rfl rfl rfl (ni rfl rfl) ?_
 refine ae rfl rfl rfl rfl (cb rfl rfl rfl) ?_
 try dsimp only [St.put]
 refine aw rfl rfl rfl rfl (c := val p) (im (cs := offC p) rfl rfl (show 4 ≤ 7 by decide)) ?_
 refine xM rfl rfl rfl rfl rfl ?_
 refine ij ?_
 try dsimp only [St.put]
 refine gt rfl rfl rfl rfl (ba rfl rfl rfl (oh b p) ?_)
 try dsimp only [St.put]
 refine di rfl rfl rfl rfl (bl rfl rfl rfl rfl (bn (by assumption)) (Enc.len _)) ?_
 refine di rfl rfl rfl rfl (cb rfl rfl rfl) ?_
 try dsimp only [St.put]
 refine gt rfl rfl rfl rfl (SStep.e' (D := fun _ => True) (bv rfl rfl) ?_)
 refine di rfl rfl rfl rfl (gm rfl rfl rfl (by omega)) ?_
 refine di rfl rfl rfl rfl (pj rfl rfl rfl (by omega) (by omega)) ?_
 refine di rfl rfl rfl rfl (gn rfl (by constructor)) ?_
 refine ii ?_
 dsimp only [St.put]
 rw [show (100 * ((cp p.pages (dn b (i : Int)) : Nat) : Int)) / (100 - r.miss) = jz p b i by unfold jz; rw [hmr]]
 have hbd := ym h b i
 refine K11 _ ?_
 refine yS fun _ K12 => ?_
 refine yR ?_
 refine yM rfl rfl ?_
 refine yM rfl rfl ?_
 refine yM rfl rfl ?_
 refine aa rfl (gm rfl rfl rfl (by omega)) ?_
 refine yA rfl rfl ?_
 refine yA rfl rfl ?_
 refine yN ?_
 dsimp only [St.put]
 refine K12 _ ?_
 refine ax ?_
 refine gx rfl (by constructor) (by constructor) zN zS ?_ ?_
 ·rfl
 exact vi (by unfold sj; rfl)
end Go.Proofs.YtgffhbbcpgdjjaaDoor
namespace Go.AB
open Go Go.RowKit
open Go.AB.Enc (cells)
section
variable {P : Program} {o : Oper} {st : St} {K : St → Prop}
/-- An empty slice that is built: owned. -/
theorem sw {t e : TypeId} {sz bytes : Nat} [AppT P t e sz bytes] (ho : o.op = .buildSlice t 0 #[]) (hsz1 : 1 ≤ sz) (h : K (St.put { st with G := ai st.G st.nx (.arr 0 0 e sz 0 []), nx := st.nx + 1 } o.dst (.own st.nx 0 0))) : EStep P o st K :=
 jj fun E w a hsim => by
  obtain ⟨ht, i, z, hie, hz, h1, h2, h3⟩ := AppT.spec (P := P) (t := t) (e := e) (sz := sz) (bytes := bytes)
  obtain ⟨ob, hob⟩ : ∃ ob, ob = Obj.cells #[] e := ⟨_, rfl⟩
  have hev := Ev.laid hsim.g (o := ob) 0 (.inl rfl)
  have hg := SimG.laid hsim.g (o := ob) 0 (.inl rfl)
  have hnew : (w.alloc ob).heap[w.heap.size]? = some ob := l7 w ob
  have hsz : (w.alloc ob).heap.size = w.heap.size + 1 := by simp
  have hold : ∀ n tt b, (E.lay w.heap.size 0).T n = some tt → blk tt.2.2 = some b → b < w.heap.size := fun n tt b h5 h6 => (hsim.g.tb n _ _ _ b h5 h6).2
  have hnx := hsim.g.nx
  have hfr : ∀ b o', blk (.slice (some ⟨w.heap.size, 0, none⟩) 0 0) = some b → w.heap[b]? = some o' → False := fun b o' hbk ho' => by
   simp only [blk, Option.some.injEq] at hbk
   subst hbk
   have := (Array.getElem?_eq_some_iff.1 ho').1
   omega
  have hev2 := hev.thenName (.slice (some ⟨w.heap.size, 0, none⟩) 0 0) hfr
  have hg2 := SimG.name hg (.slice (some ⟨w.heap.size, 0, none⟩) 0 0) (.arr 0 0 e sz 0 []) (fun b hbk => by
   simp only [blk, Option.some.injEq] at hbk
   subst hbk
   exact ⟨hsim.g.base, by rw [hsz]; omega, fun n tt h5 h6 => absurd (hold n tt _ h5 h6) (by omega)⟩) (by
   refine ⟨.slice (some ⟨w.heap.size, 0, none⟩) 0 0, [], ?_, ⟨by simp, .inr ⟨w.heap.size, 0, _, rfl, hsim.g.base, hnew.trans (by rw [hob]), Nat.le_refl _, Nat.zero_le _, by simp, by simp⟩⟩, fun c hc => (by cases hc), Rs.nil, fun b hbk => ?_, hsz1⟩
   ·simp [Env.name, Env.lay, hnx]
   ·simp only [blk, Option.some.injEq] at hbk
    subst hbk
    simp [Env.name, Env.lay])
  refine ⟨.slice (some ⟨w.heap.size, 0, none⟩) 0 0, w.alloc ob, _, _, _, .own st.nx 0 0, ?_, hev2, ?_, hg2, h⟩
  ·subst hob
   simp [execOp, ho, Instr.buildSlice, run_underlying ht, sizeOf, typeInfo, hie, Instr.fill, newRow, newObj, Sem.run, show (Array.map (fun _ => (default : Value)) (Array.range 0)) = #[] from by simp]
  ·refine R.own (by simp [Env.name, Env.lay]; omega) (Nat.le_refl _) (Nat.zero_le _) fun ver wv val htt => ?_
   simp only [Env.name, Env.lay, hnx, if_true, Option.some.injEq, Prod.mk.injEq] at htt
   obtain ⟨rfl, rfl, rfl⟩ := htt
   exact ⟨Nat.le_refl _, fun _ => ⟨_, Nat.le_refl _, rfl⟩⟩
end
end Go.AB
namespace Go.AB
open Go Go.RowKit
open Go.AB.Enc (cells)
variable {ρ : Option Nat}
section
variable {P : Program} {Q : Exit → St → Prop} {st : St}
theorem Back.simN {E0 E' : Env} {w0 w' : World} {a0 a' : Act} {st' : St} {u : List (Nat × C)} {g : Nat → Option GObj} {M : Nat} (h0 : Sim E0 w0 st a0) (hr : st.r = []) (hM : st.nx ≤ M) (hb : Back { st with nx := M } u g st') (hu : o0 M u) (hg : ∀ n o, g n = some o → st.G n = some o ∨ (n < M ∧ o.low M))
  (hev : Ev E0 w0 E' w') (hs : Sim E' w' st' a') : Ev E0 w0 (E'.drop M) w' ∧ Sim (E'.drop M) w' { st with r := u, G := g, nx := M } a' := by
 have h1 := h0.g.nx
 refine ⟨hev.drop (by omega), ?_⟩
 have hlow : ∀ i, i < st.n → (bw st.l u i).low M := fun i hi => by
  rcases u6 st.l u i with ⟨p, hp, _, he⟩ | ⟨_, he⟩
  ·rw [he]; exact xr hu p hp
  ·rw [he]
   have := h0.low i hi
   rw [hr] at this
   exact C.low.mono this hM
 have hcl : ∀ i, bw st.l u i = .any ∨ bw st.l u i = bw st'.l st'.r i := fun i => by
  by_cases hi : i < st.l.length
  ·rcases yd _ _ hb.fits i (Nat.zero_le _) (by show i < 0 + st.l.length; omega) with h | h
   ·exact .inl h
   ·exact .inr h.symm
  ·rcases u6 st.l u i with ⟨p, hp, he, he2⟩ | ⟨_, he⟩
   ·rcases hb.keys with hk | hk
    ·have h2 : p.1 < st.l.length := xx hk p hp
     omega
    ·rcases yc hk p hp with h | h
     ·left; rw [he2, h]
     ·right; rw [he2, ← h, he]
   ·left; rw [he, List.getD_eq_getElem?_getD, List.getElem?_eq_none (by omega)]; rfl
 refine hs.dropTo (st' := { st with r := u, G := g, nx := M }) hb.n.1.symm hb.n.2.symm hb.nx (fun i hi => ?_) fun n o ho => ⟨hb.G n o ho, ?_⟩
 ·rcases hcl i with h2 | h2
  ·exact .inl h2
  ·exact .inr ⟨h2, hlow i (hb.n.1 ▸ hi)⟩
 ·rcases hg n o ho with h2 | h2
  ·have := h0.lowG n o h2
   exact ⟨by have := this.1; show n < M; omega, GObj.low_mono this.2 hM⟩
  ·exact h2
/-- A loop whose rounds may make names, of which some stay. -/
theorem uiz {X : Type} {c : Code} (I : X → Prop) (μ : X → Nat) (u : X → List (Nat × C)) (g : X → (Nat → Option GObj) → Nat → Option GObj) (N : X → Nat) (x0 : X) (hr : st.r = []) (h0 : I x0) (e0 : pu st.l [] (u x0)) (n0 : N x0 = st.nx) (g0 : ∀ n o, g x0 st.G n = some o → st.G n = some o)
  (hN : ∀ x, I x → st.nx ≤ N x) (hu : ∀ x, I x → o0 (N x) (u x)) (hg : ∀ x, I x → ∀ n o, g x st.G n = some o → st.G n = some o ∨ (n < N x ∧ o.low (N x)))
  (round : ∀ x, I x → AW ρ P c (n8 (fun st' => ∃ x', μ x' < μ x ∧ I x' ∧ Back { st with nx := N x' } (u x') (g x' st.G) st') Q) { st with r := u x, G := g x st.G, nx := N x }) : AW ρ P (.loop c) Q st := by
 intro E w a hs
 refine ucy (fun m a1 w1 => ∃ x E1, m = μ x ∧ I x ∧ Ev E w E1 w1 ∧ Sim E1 w1 { st with r := u x, G := g x st.G, nx := N x } a1) (μ x0) ⟨x0, E, rfl, h0, Ev.refl E w, ?_⟩ ?_
 ·have h1 : Sim E w { st with r := u x0 } a := le_r (n := st.n) (G := st.G) (nx := st.nx) (df := st.df) e0 rfl E w a (by rw [← hr]; exact hs)
  rw [n0]
  exact le_G (st := { st with r := u x0 }) g0 E w a h1
 ·rintro m a1 w1 ⟨x, E1, rfl, hI, hev, hs1⟩
  refine gz ?_ (round x hI E1 w1 a1 hs1)
  rintro e a' w' ⟨st', E', h1, h2, h3⟩
  cases e with
  | normal =>
   obtain ⟨x', h4, h5, h6⟩ := h3
   obtain ⟨h7, h8⟩ := Back.simN hs hr (hN x' h5) h6 (hu x' h5) (hg x' h5) (hev.trans h1) h2
   exact ⟨μ x', h4, x', _, rfl, h5, h7, h8⟩
  | _ => exact lh (hev.trans h1) ⟨st', E', Ev.refl _ _, h2, h3⟩
end
section
variable {P : Program} {o : Oper} {st : St} {K : St → Prop}
end
end Go.AB
namespace Go.AB
open Go Go.RowKit
theorem ui0 {ρ : Option Nat} {P : Program} {Q : Exit → St → Prop} {st : St} {X : Type} {x y : Code} (I : X → Prop) (u : X → List (Nat × C)) (g : X → (Nat → Option GObj) → Nat → Option GObj) (N : X → Nat) (hr : st.r = [])
  (hN : ∀ x, I x → st.nx ≤ N x) (hu : ∀ x, I x → o0 (N x) (u x)) (hg : ∀ x, I x → ∀ n o, g x st.G n = some o → st.G n = some o ∨ (n < N x ∧ o.low (N x)))
  (h1 : AW ρ P x (n8 (fun st' => ∃ x', I x' ∧ Back { st with nx := N x' } (u x') (g x' st.G) st') Q) st) (h2 : ∀ x', I x' → AW ρ P y Q { st with r := u x', G := g x' st.G, nx := N x' }) : AW ρ P (.seq x y) Q st := by
 intro E w a hs
 refine wpIn_seq (gz ?_ (h1 E w a hs))
 rintro e a' w' ⟨st', E', q1, q2, q3⟩
 cases e with
 | normal =>
  obtain ⟨x', h5, h6⟩ := q3
  obtain ⟨h7, h8⟩ := Back.simN hs hr (hN x' h5) h6 (hu x' h5) (hg x' h5) q1 q2
  exact gz (fun _ _ _ hq => lh h7 hq) (h2 x' h5 _ w' a' h8)
 | _ => exact ⟨st', E', q1, q2, q3⟩
/-- What stands in a slot is known less well. -/
theorem vo {ρ : Option Nat} {P : Program} {Q : Exit → St → Prop} {st : St} {x : Code} (i : Nat) {c : C} (c' : C) (h0 : st.at i = c) (hw : Wk c c') (h : AW ρ P x Q { st with r := (i, c') :: st.r }) : AW ρ P x Q st := by
 intro E w a hs
 have hp := hs.at i
 rw [h0] at hp
 refine h E w a ⟨hs.d, hs.sz, fun j v hj => ?_, hs.g⟩
 simp only [bw]
 cases hb : Nat.beq i j
 ·exact hs.t j v hj
 ·have hij := Nat.eq_of_beq_eq_true hb
  subst hij
  have hv : a.tmps.getD i undef = v := by rw [Array.getD_eq_getD_getElem?, hj]; rfl
  rw [hv] at hp
  exact hw.2 _ _ _ hp
end Go.AB
namespace Go.AB
open Go Go.RowKit
open Go.AB.Enc (cells)
section
variable {P : Program} {o : Oper} {st : St} {K : St → Prop}
/-- append to a slice without room: a copy, owned. -/
theorem uid {α : Type} [Enc α] {t e : TypeId} {bytes : Nat} [AppT P t e (Enc.n α) bytes] {s x : Operand} {tok tk : Tok} {rows : List (List C)} (ys : List α) (ho : o.op = .call { callee := .builtin .append, args := #[s, x], argTypes := #[t, t] }) (hs : evC st s = .list [] tok) (htok : tok = .zero ∨ tok = .nil) (hx : evC st x = .list rows tk) (hy : rows = ys.map cells) (hne : ys ≠ []) (hn : 1 ≤ Enc.n α) (hb : ys.length * bytes ≤ 140737488355328) (hm : ys.length ≤ 9223372036854775807)
  (h : K (St.put { st with G := ai st.G st.nx (.arr 0 0 e (Enc.n α) ys.length (ci ys)), nx := st.nx + 1 } o.dst (.own st.nx 0 ys.length))) : EStep P o st K :=
 jj fun E w a hsim => by
  subst hy
  obtain ⟨ht, i, z, hie, hz, h1, h2, h3⟩ := AppT.spec (P := P) (t := t) (e := e) (sz := Enc.n α) (bytes := bytes)
  obtain ⟨sa, cap, _, _, e1, _, _, _, _, _, _, _, z1, z2, _⟩ := (hs ▸ hsim.ev s).list_inv
  have hcap : cap = 0 := by
   rcases htok with h | h
   ·exact z2 h
   ·exact (z1 h).2
  subst hcap
  have hrl : (ys.map (cells (α := α))).length = ys.length := List.length_map _
  obtain ⟨ao, c, news, e2, hl, hnews, hr, hone, h1c⟩ := vr (hx ▸ hsim.ev x) (kx ys)
  rw [hrl] at e2 hl hnews
  have hy0 : ys.length ≠ 0 := fun e => hne (List.eq_nil_of_length_eq_zero e)
  obtain ⟨ad, rfl, hcells⟩ := hnews.resolve_left hy0
  have hl2 : news.length = ys.length * i.size := by rw [hl, h1]
  have key : ∃ nc, (Builtin.append_ #[t, t] o.type #[.slice sa 0 0, .slice (some ad) ys.length c]).run P w = .ok (.slice (some ⟨w.heap.size, 0, none⟩) ys.length nc) (w.drew.alloc (.cells (news.toArray ++ Builtin.zeroCells z.cells (nc - ys.length)) e)) ∧ ys.length ≤ nc ∧ nc ≤ maxLen := by
   refine ⟨grownCap w (0 + ys.length) 0 e, ?_, ?_, ?_⟩
   ·cases sa with
    | none =>
     have := run_append_nil (P := P) w t o.type e i z ht hie hz ad ys.length c news hl2 hcells (by omega) (by omega) (by rw [h2]; omega)
     simpa using this
    | some a0 =>
     have := run_append_grow (P := P) w t o.type e i z ht hie hz a0 0 0 [] (by simp) (by simp) ad ys.length c news hl2 hcells (by omega) (by omega) (growslice_fits (by omega) (by rw [h2]; simpa using hb))
     simpa using this
   ·have := grownCap_ge w (0 + ys.length) 0 e; omega
   ·exact grownCap_le_maxLen w (0 + ys.length) 0 e (by unfold maxLen; omega)
  obtain ⟨nc, hrun, hnc, hnm⟩ := key
  obtain ⟨ob, hob⟩ : ∃ ob, ob = Obj.cells (news.toArray ++ Builtin.zeroCells z.cells (nc - ys.length)) e := ⟨_, rfl⟩
  rw [← hob] at hrun
  have hev := Ev.laid hsim.g (o := ob) 0 (.inr rfl)
  have hg := SimG.laid hsim.g (o := ob) 0 (.inr rfl)
  have hnew : (w.drew.alloc ob).heap[w.heap.size]? = some ob := l7 w.drew ob
  have hsz : (w.drew.alloc ob).heap.size = w.heap.size + 1 := by simp
  have hold : ∀ n tt b, (E.lay w.heap.size 0).T n = some tt → blk tt.2.2 = some b → b < w.heap.size := fun n tt b h5 h6 => (hsim.g.tb n _ _ _ b h5 h6).2
  have hnx := hsim.g.nx
  have hfr : ∀ b o', blk (.slice (some ⟨w.heap.size, 0, none⟩) ys.length nc) = some b → w.heap[b]? = some o' → False := fun b o' hbk ho' => by
   simp only [blk, Option.some.injEq] at hbk
   subst hbk
   have := (Array.getElem?_eq_some_iff.1 ho').1
   omega
  have hev2 := hev.thenName (.slice (some ⟨w.heap.size, 0, none⟩) ys.length nc) hfr
  have hg2 := SimG.name hg (.slice (some ⟨w.heap.size, 0, none⟩) ys.length nc) (.arr 0 0 e (Enc.n α) ys.length (ci ys)) (fun b hbk => by
   simp only [blk, Option.some.injEq] at hbk
   subst hbk
   exact ⟨hsim.g.base, by rw [hsz]; omega, fun n tt h5 h6 => absurd (hold n tt _ h5 h6) (by omega)⟩) (by
   refine ⟨.slice (some ⟨w.heap.size, 0, none⟩) ys.length nc, news, ?_, ⟨hl, .inr ⟨w.heap.size, nc, _, rfl, hsim.g.base, hnew.trans (by rw [hob]), hnc, hnm, ?_, ?_⟩⟩, fun c hc => ?_, hr.ev hev2, fun b hbk => ?_, hn⟩
   ·simp [Env.name, Env.lay, hnx]
   ·simp only [Array.size_append, List.size_toArray, size_zeroCells, hl]
    rw [h3, ← Nat.add_mul]
    congr 1
    omega
   ·simp only [Array.toList_append]
    rw [List.take_append_of_le_length (by simp [hl]), List.take_of_length_le (by simp [hl])]
   ·obtain ⟨r, hr1, hr2⟩ := List.mem_flatten.1 hc
    exact hone r hr1 c hr2
   ·simp only [blk, Option.some.injEq] at hbk
    subst hbk
    simp [Env.name, Env.lay])
  refine ⟨.slice (some ⟨w.heap.size, 0, none⟩) ys.length nc, w.drew.alloc ob, _, _, _, .own st.nx 0 ys.length, ?_, hev2, ?_, hg2, h⟩
  ·simp only [execOp, ho, resolve, invoke, builtin, Sem.run_bind, Sem.run_pure, Result.andThen_ok, List.map_toArray, List.map_cons, List.map_nil, e1, e2]
   simp only [List.length_nil]
   rw [hrun]; rfl
  ·refine R.own (by simp [Env.name, Env.lay]; omega) hnc hnm fun ver wv val htt => ?_
   simp only [Env.name, Env.lay, hnx, if_true, Option.some.injEq, Prod.mk.injEq] at htt
   obtain ⟨rfl, rfl, rfl⟩ := htt
   exact ⟨Nat.le_refl _, fun _ => ⟨_, Nat.le_refl _, rfl⟩⟩
end
/-- A function that gives nothing back ends. -/
theorem qr {P : Program} {st : St} {fn : Func} {G : Nat → Option GObj} {nx : Nat} {e : Exit} (hf : fn.results = #[]) (he : e = .normal ∨ e = .ret) (hn : nx ≤ st.nx) (hG : ∀ n o, G n = some o → st.G n = some o) : n7 P fn (.tup []) G nx e st := by
 have : oq P fn st (.tup []) := fun E w a _ => ⟨_, results_none hf _ _ _, R.undef E w⟩
 rcases he with rfl | rfl
 ·exact ⟨this, hn, hG⟩
 ·exact ⟨this, hn, hG⟩
end Go.AB
namespace Go.AB
open Go Go.RowKit
open Go.Maps (Keyed)
section
variable {P : Program} {k t e : TypeId} {w : World} {r : Nat} {es : Array MapEntry} {clock : Nat}
end
section
variable {P : Program} {o : Oper} {st : St} {K : St → Prop} {α : Type} [KeyV α]
end
/-- Three numbers. -/
instance : KeyV Go.PB.PlaceD where
 kv x := .agg #[.int .i64 x.ch, .int .i64 x.ln, .int .i64 x.wd]
 kc x := .agg [.v (.int .i64 x.ch), .v (.int .i64 x.ln), .v (.int .i64 x.wd)]
 inv h := by
  obtain ⟨vs, rfl, h1, _⟩ := h.agg_inv
  match vs, h1 with
  | [a, b, c], h1 =>
   have e1 := (h1.2 0 _ _ rfl rfl).v_inv
   have e2 := (h1.2 1 _ _ rfl rfl).v_inv
   have e3 := (h1.2 2 _ _ rfl rfl).v_inv
   subst e1; subst e2; subst e3; rfl
  | [], h => exact absurd h.1 (by simp)
  | [_], h => exact absurd h.1 (by simp)
  | [_, _], h => exact absurd h.1 (by simp)
  | _ :: _ :: _ :: _ :: _, h => exact absurd h.1 (by simp)
 inj h := by
  rename_i x y
  obtain ⟨a, b, c⟩ := x
  obtain ⟨d, e, f⟩ := y
  simpa using h
 any {E w x v} h E' w' := by
  obtain ⟨vs, rfl, h1, _⟩ := h.agg_inv
  match vs, h1 with
  | [a, b, c], h1 =>
   have e1 := h1.2 0 _ _ rfl rfl
   have e2 := h1.2 1 _ _ rfl rfl
   have e3 := h1.2 2 _ _ rfl rfl
   cases e1 with | v e1 =>
   cases e2 with | v e2 =>
   cases e3 with | v e3 =>
   exact (Rs.cons (.v e1) (Rs.cons (.v e2) (Rs.cons (.v e3) Rs.nil))).agg (by intro c hc; simp only [List.mem_cons, List.not_mem_nil, or_false] at hc; rcases hc with rfl | rfl | rfl <;> rfl)
  | [], h => exact absurd h.1 (by simp)
  | [_], h => exact absurd h.1 (by simp)
  | [_, _], h => exact absurd h.1 (by simp)
  | _ :: _ :: _ :: _ :: _, h => exact absurd h.1 (by simp)
end Go.AB
namespace Go.AB
open Go Go.RowKit
open Go.PB (ay aj PlaceD bh bj bi)
def ub8 (P : Program) (k u : TypeId) : Bool := match P.underlying k with
 | some (.struct fs) => (match fs.toList with
  | [a, b, c] => a.type == u && b.type == u && c.type == u && a.offset == 0 && b.offset == 1 && c.offset == 2 && fs.all (·.name != "_")
  | _ => false)
 | _ => false
theorem key3 {P : Program} {k u : TypeId} (h : ub8 P k u = true) (hu : P.underlying u = some (.int .i64)) (h3 : P.cellsOf k = 3) (h1 : P.cellsOf u = 1) (hk : P.keyType k = true) (hm : ∃ m, P.types.size = m + 3) {x y z : Int} (hx : (Lit.int .i64 x).wf = true) (hy : (Lit.int .i64 y).wf = true) (hz : (Lit.int .i64 z).wf = true) : ∃ l, keyOf P k (.agg #[.int .i64 x, .int .i64 y, .int .i64 z]) = some l := by
 obtain ⟨m, hm⟩ := hm
 unfold ub8 at h
 split at h
 ·rename_i fs hfs
  split at h
  ·rename_i a b c habc
   simp only [Bool.and_eq_true, beq_iff_eq] at h
   obtain ⟨⟨⟨⟨⟨⟨e1, e2⟩, e3⟩, e4⟩, e5⟩, e6⟩, e7⟩ := h
   have hf : (Value.agg #[.int .i64 x, .int .i64 y, .int .i64 z]).formed P k = true := by simp [Value.formed, hfs, h3]
   refine ⟨.string (keyBytes [.int .i64 x, .int .i64 y, .int .i64 z]), ?_⟩
   unfold keyOf
   rw [hfs]
   simp only [hk, hf, Bool.and_self, if_true]
   have hl : P.keyLits (P.types.size + 1) k (Value.agg #[.int .i64 x, .int .i64 y, .int .i64 z]).cells.toList = some [.int .i64 x, .int .i64 y, .int .i64 z] := by
    rw [hm]
    unfold Program.keyLits
    simp only [hfs, h3, h1, e1, e2, e3, e4, e5, e6, e7, habc, Value.cells]
    unfold Program.keyLits
    simp [hu, h1, e1, e2, e3, e4, e5, e6, hx, hy, hz]
   rw [hl]
   rfl
  ·cases h
 ·cases h
end Go.AB
namespace Go.Proofs.YtgffhbbcpgdjjaaDoor
set_option maxRecDepth 10000
open Go Go.RowKit Go.AB
open Go.PB (ay aj PlaceD bh bj bi)
theorem ufz : Go.Maps.Keyed Tryd.prog 54 := Go.Maps.Keyed.of_law (deep_law_laid sn (m := 2) (by omega) (of_decide_eq_true (by kernel_rfl)) (by kernel_rfl) (by kernel_rfl))
instance : KeyT Tryd.prog 54 PlaceD where
 keyed := ufz
 has {E w x v} h := by
  obtain ⟨vs, rfl, h1, _⟩ := R.agg_inv h
  match vs, h1 with
  | [a, b, c], h1 => exact key3 (u := 3) (by kernel_rfl) wg (by kernel_rfl) (by kernel_rfl) (by kernel_rfl) ug4 (ur (ux (h1.2 0 _ _ rfl rfl))) (ur (ux (h1.2 1 _ _ rfl rfl))) (ur (ux (h1.2 2 _ _ rfl rfl)))
  | [], h => exact absurd h.1 (by simp)
  | [_], h => exact absurd h.1 (by simp)
  | [_, _], h => exact absurd h.1 (by simp)
  | _ :: _ :: _ :: _ :: _, h => exact absurd h.1 (by simp)
end Go.Proofs.YtgffhbbcpgdjjaaDoor
namespace Go.AB
open Go Go.RowKit
open Go.AB.Enc (cells)
open Go.PB (ay aj PlaceD bh bj bi bx aq am cv co dq dp)
/-- who is found, as a map -/
def ed (f : PlaceD → Bool) : PlaceD → Option C := fun q => bif f q then some (.v (.bool true)) else none
theorem qg (f : PlaceD → Bool) (q : PlaceD) : (ed f q).getD (nw (.bool false)) = .v (.bool (f q)) := by
 unfold ed
 cases f q <;> rfl
theorem xa : ed (fun q => decide (q ∈ ([] : List PlaceD))) = fun _ => none := by funext q; simp [ed]
theorem xb {F : List PlaceD} {k : Nat} {q : PlaceD} (h : F[k]? = some q) : jq (ed fun x => decide (x ∈ F.take k)) q (.v (.bool true)) = ed fun x => decide (x ∈ F.take (k + 1)) := by
 funext x
 unfold jq ed
 have hm : decide (x ∈ F.take (k + 1)) = (decide (x ∈ F.take k) || decide (x = q)) := by
  rw [List.take_add_one, h, Option.toList_some, Bool.eq_iff_iff]; simp
 dsimp only
 by_cases e : x = q
 ·rw [hm, decide_eq_true e, Bool.or_true, if_pos e]; rfl
 rw [hm, decide_eq_false e, Bool.or_false, if_neg e]
theorem qf {F W : List PlaceD} (hW : W.Nodup) {k : Nat} {q : PlaceD} (h : W[k]? = some q) (hq : q ∈ F) : pm (ed (dz F (W.take k))) q = ed (dz F (W.take (k + 1))) := by
 funext x
 unfold pm ed
 rw [ua9 hW h x]
 by_cases e : x = q
 ·rw [if_pos e, decide_eq_true e, decide_eq_true hq]; rfl
 rw [if_neg e, decide_eq_false e]; rfl
theorem qe {F W : List PlaceD} (hW : W.Nodup) {k : Nat} {q : PlaceD} (h : W[k]? = some q) (hq : q ∉ F) : jq (ed (dz F (W.take k))) q (.v (.bool true)) = ed (dz F (W.take (k + 1))) := by
 funext x
 unfold jq ed
 rw [ua9 hW h x]
 by_cases e : x = q
 ·rw [if_pos e, decide_eq_true e, decide_eq_false hq]; rfl
 rw [if_neg e, decide_eq_false e]; rfl
theorem onceM_ne {f : PlaceD → Bool} {q : PlaceD} : ed f q ≠ none ↔ f q = true := by
 unfold ed
 cases f q <;> simp
theorem ph {f : PlaceD → Bool} {q : PlaceD} {c : C} (h : ed f q = some c) : c = .v (.bool true) := by
 unfold ed at h
 cases hf : f q <;> rw [hf] at h
 ·cases h
 cases h; rfl
theorem f9 (f : PlaceD → Bool) (n : Nat) : ∀ x c, ed f x = some c → C.low n c := fun x c h => by rw [ph h]; exact .v
def nl (ks done : List PlaceD) : Nat := (ks.filter fun y => decide (y ∉ done)).length
theorem ql {ks done : List PlaceD} {y : PlaceD} (hy : y ∈ ks) (hn : y ∉ done) : nl ks (done ++ [y]) < nl ks done := by
 unfold nl
 induction ks with
 | nil => cases hy
 | cons z ks ih =>
  have hle : (ks.filter fun y' => decide (y' ∉ done ++ [y])).length ≤ (ks.filter fun y' => decide (y' ∉ done)).length := by
   rw [← List.countP_eq_length_filter, ← List.countP_eq_length_filter]
   refine List.countP_mono_left fun a _ ha => ?_
   simp only [decide_eq_true_eq, List.mem_append, not_or] at ha ⊢
   exact ha.1
  by_cases e : z = y
  ·subst e
   rw [List.filter_cons_of_neg (by simp), List.filter_cons_of_pos (by simpa using hn)]
   simp only [List.length_cons]
   omega
  have hy' : y ∈ ks := by
   rcases List.mem_cons.1 hy with h | h
   ·exact absurd h.symm e
   exact h
  have := ih hy'
  by_cases hz : z ∈ done
  ·rw [List.filter_cons_of_neg (by simp [hz]), List.filter_cons_of_neg (by simp [hz])]
   exact this
  rw [List.filter_cons_of_pos (by simp [hz, e]), List.filter_cons_of_pos (by simp [hz])]
  simp only [List.length_cons]
  omega
theorem qy {p : am} {x : aq} {q : PlaceD} {k : Nat} {last : Int} (hp : mh p last x) (hB : bf p.text x = []) (hq : x.well[k]? = some q) : q ∉ x.found := fun hf => by
 have : q ∈ bf p.text x := by
  show q ∈ (dh p.text).filter _
  rw [List.mem_filter, Bool.and_eq_true, decide_eq_true_eq, decide_eq_true_eq, allQ_mem]
  exact ⟨(nv hp.found hf).1, hf, List.mem_of_getElem? hq⟩
 rw [hB] at this; cases this
theorem qc {p : PlaceD → Prop} : Ord3 p ig := by
 have key : ∀ a b, ig a b < 0 ↔ ltW (da a) (da b) := fun a b => o6 (by rfl)
 refine ⟨fun x _ => ?_, fun x y z _ _ _ h k => ?_, fun x y z _ _ _ h k => ?_⟩
 ·rw [key]; exact po _
 ·rw [key] at h k ⊢; exact sg h k
 rw [key] at h k ⊢
 intro hxz
 by_cases h1 : ltW (da y) (da x)
 ·exact k (sg h1 hxz)
 rw [xq (a := da x) (b := da y) rfl h h1] at hxz; exact k hxz
def PBd9 (q : PlaceD) : Prop := (0 ≤ q.ch ∧ q.ch ≤ 100000) ∧ (0 ≤ q.ln ∧ q.ln ≤ 100000) ∧ 0 ≤ q.wd ∧ q.wd ≤ 100000
theorem PBd9.plain {a : PlaceD} (h : PBd9 a) : Plain (cells a) := fun c hc => by
 obtain ⟨h1, h2, h3⟩ := h
 have hc' : c ∈ [C.v (.int .i64 a.ch), C.v (.int .i64 a.ln), C.v (.int .i64 a.wd)] := hc
 simp only [List.mem_cons, List.not_mem_nil, or_false] at hc'
 rcases hc' with rfl | rfl | rfl
 ·exact ⟨_, rfl, lz (by omega)⟩
 ·exact ⟨_, rfl, lz (by omega)⟩
 exact ⟨_, rfl, lz (by omega)⟩
theorem uaw {t : aj} (ht : dl t = true) {q : PlaceD} (h : ey t q = true) : PBd9 q := by
 obtain ⟨l, hw, hw1, hw2⟩ := placeB_true.1 h
 have := tg ht hw
 exact ⟨by omega, by omega, by omega, by omega⟩
theorem ua8 {p : am} {x : aq} {last : Int} (hp : mh p last x) {q : PlaceD} (h : dz x.found x.well q = true) : ey p.text q = true := by
 unfold dz at h
 by_cases h1 : q ∈ x.found
 ·exact (nv hp.found h1).1
 by_cases h2 : q ∈ x.well
 ·exact (nv hp.well h2).1
 simp [h1, h2] at h
theorem qd {p : am} {x : aq} {last : Int} (hp : mh p last x) (ht : dl p.text = true) {done : List PlaceD} (h : ∀ q ∈ done, dz x.found x.well q = true) : ∀ q ∈ done, PBd9 q := fun q hq => uaw ht (ua8 hp (h q hq))
theorem yo {p : am} {x : aq} {last : Int} (_ : mh p last x) (ht : dl p.text = true) {q : PlaceD} (h : q ∈ bf p.text x) : PBd9 q := by
 have : q ∈ (dh p.text).filter _ := h
 exact uaw ht (allQ_mem.1 (List.mem_filter.1 this).1)
theorem k8 {p : am} {x : aq} {last : Int} (hp : mh p last x) {done : List PlaceD} (hn : done.Nodup) (h : ∀ q ∈ done, dz x.found x.well q = true) : done.length ≤ (dh p.text).length :=
 ubh hn fun q hq => allQ_mem.2 (ua8 hp (h q hq))
section
variable {P : Program} {o : Oper} {st : St} {K : St → Prop}
/-- A slice that is nil is nil. -/
theorem uh5 {t t' e : TypeId} [Elt P t e] {x : Operand} {rows : List (List C)} (ho : o.op = .binOp .eql t x (.const (.slice none 0 0)) t') (hx : evC st x = .list rows .nil) (h : K (st.put o.dst (.v (.bool true)))) : EStep P o st K :=
 jj fun E w a hsim => by
  have hr := hx ▸ hsim.ev x
  obtain ⟨ad, cap, _, _, hv, h1, _, _, _, _, _, h7, z1, _⟩ := R.list_inv hr
  obtain ⟨rfl, rfl⟩ := z1 rfl
  have q1 := Elt.spec (P := P) (t := t) (e := e)
  refine ⟨.bool true, w, E, st.G, st.nx, .v (.bool true), ?_, Ev.refl E w, .v rfl, hsim.g, h⟩
  have hq := run_equal_slice_nil (P := P) w t e none rows.length 0 q1
  have he2 : a.eval (.const (.slice none 0 0)) = .slice none 0 0 := rfl
  simp [execOp, ho, hv, he2, eqGuard, binOp, hq]
/-- .. one in which something is, is not. -/
theorem uh7 {t t' e : TypeId} [Elt P t e] {x : Operand} {rows : List (List C)} {tok : Tok} (hne : rows ≠ []) (ho : o.op = .binOp .eql t x (.const (.slice none 0 0)) t') (hx : evC st x = .list rows tok) (h : K (st.put o.dst (.v (.bool false)))) : EStep P o st K :=
 uh8 ho hx fun b hb => by rw [hb hne]; exact h
end
end Go.AB
namespace Go.Proofs.YtgffhbbcpgdjjaaDoor
set_option maxRecDepth 10000
open Go Go.RowKit Go.AB
open Go.AB.Enc (cells)
open Go.PB (ay aj PlaceD bh bj bi bx aq am cv co dq dp)
instance : Ty Tryd.prog (srt_Place_ren.t 24) true (Enc.n PlaceD) := inferInstanceAs (Ty Tryd.prog 54 true 3)
theorem yj : Pure Tryd.prog 91 [.list [] .nil] (.list [] .nil) := by
 refine dm Tryd.func91 rfl (fun m => (.list (fun r hr => by cases hr) (fun k hk => by cases hk))) fun G nx => ?_
 simp only [Tryd.ntmps91, List.length_cons, List.length_nil, Nat.reduceAdd, Nat.reduceSub]
 refine ct fun hlt => ?_
 dsimp only at hlt
 refine yS fun _ K1 => ?_
 refine yR ?_
 refine yA rfl rfl ?_
 refine yN ?_
 dsimp only [St.put]
 refine K1 _ ?_
 refine yS fun _ K2 => ?_
 refine yS fun _ K3 => ?_
 refine yR ?_
 refine yM rfl rfl ?_
 refine af rfl (uh5 rfl rfl ?_)
 refine yN ?_
 dsimp only [St.put]
 refine K3 _ ?_
 refine ak rfl (fun hc => ?_) (fun hc => ?_)
 ·try replace hc := of_decide_eq_true hc
  refine yS fun _ K4 => ?_
  refine yR ?_
  refine yA rfl rfl ?_
  refine yN ?_
  dsimp only [St.put]
  refine K4 _ ?_
  refine ax ?_
  refine bp rfl (by constructor) zN zS ?_
  rfl
 try replace hc := of_decide_eq_false hc
 refine av ?_
 refine K2 _ ?_
 refine yS fun _ K5 => ?_
 refine yR ?_
 try dsimp only [St.put]
 refine af rfl (vj rfl ?_)
 refine yM rfl rfl ?_
 try dsimp only [St.put]
 refine af rfl (sx rfl rfl (.inl rfl) rfl (show 1 ≤ 3 by decide) (fun r hr => by cases hr) (by simp) (by simp) ?_)
 refine yA rfl rfl ?_
 refine yN ?_
 dsimp only [St.put]
 refine K5 _ ?_
 refine ax ?_
 exact absurd hc (by decide)
theorem uc0 (l : List PlaceD) (hne : l ≠ []) (hl : l.length ≤ 1000) (G : Nat → Option GObj) (nx : Nat) : PC Tryd.prog 91 [lst l] G nx fun r G' nx' => r = .own nx 0 l.length ∧ G' = ai G nx (.arr 0 0 54 3 l.length (ci l)) ∧ nx' = nx + 1 := by
 refine kp (ai G nx (.arr 0 0 54 3 l.length (ci l))) (nx + 1) Tryd.func91 rfl (.own (Nat.lt_succ_self _)) zN (fun hlt => (by (repeat' (refine et ?_ (by (try dsimp only); omega) ?_)); all_goals (first | exact fq zS | (repeat' (first | exact trivial | refine ⟨?_, ?_⟩ | exact .v | exact .any | refine .elem ?_ | exact ar _ _ | exact c6 _ _ | exact cw _ _ | exact cy _ (by (try dsimp only); omega) | exact .box (by (try dsimp only); omega) | exact c5 | exact cg | exact cc _ | refine c4 ?_ ?_ | exact .arr (by (try dsimp only); omega) | exact .own (by (try dsimp only); omega) | exact .map (by (try dsimp only); omega) | exact cc _ | refine bk ?_ ?_ | exact ar _ _))))) ?_
 simp only [Tryd.ntmps91, List.length_cons, List.length_nil, Nat.reduceAdd, Nat.reduceSub]
 refine ct fun hlt => ?_
 dsimp only at hlt
 refine yS fun _ K1 => ?_
 refine yR ?_
 refine yA rfl rfl ?_
 refine yN ?_
 dsimp only [St.put]
 refine K1 _ ?_
 refine yS fun _ K2 => ?_
 refine yS fun _ K3 => ?_
 refine yR ?_
 refine yM rfl rfl ?_
 refine af rfl (uh7 (fun e => hne (by simpa using e)) rfl rfl ?_)
 refine yN ?_
 dsimp only [St.put]
 refine K3 _ ?_
 refine ak rfl (fun hc => ?_) (fun hc => ?_)
 ·try replace hc := of_decide_eq_true hc
  refine yS fun _ K4 => ?_
  refine yR ?_
  refine yA rfl rfl ?_
  refine yN ?_
  dsimp only [St.put]
  refine K4 _ ?_
  refine ax ?_
  exact absurd hc (by decide)
 try replace hc := of_decide_eq_false hc
 refine av ?_
 refine K2 _ ?_
 refine yS fun _ K5 => ?_
 refine yR ?_
 try dsimp only [St.put]
 refine af rfl (vj rfl ?_)
 refine yM rfl rfl ?_
 try dsimp only [St.put]
 refine af rfl (uid l rfl rfl (.inl rfl) rfl rfl hne (by decide) (by omega) (by omega) ?_)
 refine yA rfl rfl ?_
 refine yN ?_
 dsimp only [St.put]
 refine K5 _ ?_
 refine ax ?_
 refine bp rfl (by constructor) zN zS ?_
 rfl
set_option maxHeartbeats 4000000 in
theorem ujb (p : am) (last : Int) (x : aq) (ws : List Int) (al bo : List (List PlaceD)) (nB a1 a2 a3 V : Nat) (ht : dl p.text = true) (hp : mh p last x) (hw : ws.length ≤ 100) (ha : al.length ≤ 100) (hb : bo.length ≤ 100) (G : Nat → Option GObj) (nx : Nat) (hN : nB < nx) (h1 : a1 < nx) (h2 : a2 < nx) (h3 : a3 < nx) (d1 : nB ≠ a1) (d2 : nB ≠ a2) (d3 : nB ≠ a3) (d4 : a1 ≠ a2) (d5 : a1 ≠ a3) (d6 : a2 ≠ a3)
  (hGB : G nB = some (((.box (V) [lst p.text, lst p.firsts, lst p.seconds, lst p.pages, .list ((ws).map cells) (.tip a1), .list ((al).map cells) (.tip a2), .list ((bo).map cells) (.tip a3)])))) (hG1 : G a1 = some (.tip ws.length 3 1)) (hG2 : G a2 = some (.tip al.length 36 1)) (hG3 : G a3 = some (.tip bo.length 36 1)) :
  PC Tryd.prog 70 [.box nB 0 0, val x, lst (j6 p.text p.text.length)] G nx fun r' G' nx' => r' = .tup [] ∧ G' = ai (ai (ai (ai G nB (((.box ((V + 1 + 1 + 1)) [lst p.text, lst p.firsts, lst p.seconds, lst p.pages, .list (((ws ++ [(dw p.text x : Int)])).map cells) (.tip a1), .list (((al ++ [ca p.text x])).map cells) (.tip a2), .list (((bo ++ [bf p.text x])).map cells) (.tip a3)])))) a1 (.tip (ws ++ [(dw p.text x : Int)]).length 3 1)) a2 (.tip (al ++ [ca p.text x]).length 36 1)) a3 (.tip (bo ++ [bf p.text x]).length 36 1) ∧ nx' = nx := by
 refine kp (ai (ai (ai (ai G nB (((.box ((V + 1 + 1 + 1)) [lst p.text, lst p.firsts, lst p.seconds, lst p.pages, .list (((ws ++ [(dw p.text x : Int)])).map cells) (.tip a1), .list (((al ++ [ca p.text x])).map cells) (.tip a2), .list (((bo ++ [bf p.text x])).map cells) (.tip a3)])))) a1 (.tip (ws ++ [(dw p.text x : Int)]).length 3 1)) a2 (.tip (al ++ [ca p.text x]).length 36 1)) a3 (.tip (bo ++ [bf p.text x]).length 36 1)) (nx) Tryd.func70 rfl (.tup cg) zN (fun hlt => zH) ?_
 simp only [Tryd.ntmps70, List.length_cons, List.length_nil, Nat.reduceAdd, Nat.reduceSub]
 refine ct fun hlt => ?_
 dsimp only at hlt
 obtain ⟨hl1, hl2, hl3⟩ := jo ht
 have hal := km ht
 have hnd1 := pe (o5 hp.found)
 have hnd2 := pe (o5 hp.well)
 have hfl := io hp.found
 have hwl := io hp.well
 have hbl := rb p.text x
 have hgl := pp p.text x
 have hwx := v8 p.text x
 have hwt : ∀ (f : PlaceD → Bool) (l : List PlaceD), (l.filter f).length ≤ l.length := fun f l => List.length_filter_le f l
 have hstl := tn p.text p.text.length
 have hmw : x.well.take x.well.length = x.well := List.take_length
 refine yS fun _ K1 => ?_
 refine yR ?_
 try dsimp only [St.put]
 refine yB rfl rfl rfl ?_
 refine yN ?_
 dsimp only [St.put]
 refine K1 _ ?_
 refine yS fun _ K2 => ?_
 refine yR ?_
 refine yA rfl rfl ?_
 refine yN ?_
 dsimp only [St.put]
 rw [show (0 : Int) = ((dr p.text x (dh (p.text.take 0)) : Nat) : Int) from rfl]
 refine K2 _ ?_
 refine yS fun _ K3 => ?_
 refine yS fun _ K4 => ?_
 refine yR ?_
 refine yM rfl rfl ?_
 refine aa rfl (fb rfl rfl) ?_
 refine aa rfl (dj rfl rfl) ?_
 refine aa rfl (dj rfl rfl) ?_
 refine aa rfl (dj rfl rfl) ?_
 try dsimp only [St.put]
 refine du rfl (gg rfl rfl zG trivial (by first | rfl | assumption)) ?_
 refine aa rfl (bg rfl rfl (List.length_map _)) ?_
 refine yM rfl rfl ?_
 refine yN ?_
 dsimp only [St.put]
 refine K4 _ ?_
 refine az ?_
 refine cj 27 ?_
 refine zQ ?_
 refine c7 (X := Nat) (fun k => k ≤ p.text.length) (fun k => p.text.length - k) (fun k => [(6, .v (.int .i64 ((dr p.text x (dh (p.text.take k)) : Nat) : Int))), (7, .any), (8, .any), (9, .any), (10, .any), (26, .v (.int .i64 (k : Int)))]) (fun k G' => G') 0 rfl ?_ ?_ (fun _ _ h => h) ?_ ?_ ?_
 ·exact Nat.zero_le _
 ·exact zF
 ·rintro k hI
  exact zL
 ·exact fun _ _ _ _ h => .inl h
 rintro k hI
 dsimp only at hI ⊢
 refine yS fun _ K5 => ?_
 refine yR ?_
 refine aa rfl (cn rfl rfl rfl) ?_
 refine yN ?_
 dsimp only [St.put]
 refine K5 _ ?_
 refine yS fun _ K6 => ?_
 refine ak rfl (fun hc => ?_) (fun hc => ?_)
 ·replace hc := of_decide_eq_true hc
  obtain ⟨c, hcx⟩ : ∃ c, p.text[k]? = some c := cx (by omega)
  have hll := (hl3 c (ez hcx)).2.1
  have hwo := (hl3 c (ez hcx)).2.2
  have hst := rr (t := p.text) (k := p.text.length) (i := k) (by omega)
  have hsb := og ht k (by omega)
  refine av ?_
  refine K6 _ ?_
  refine yS fun _ K7 => ?_
  refine az ?_
  refine yS fun _ K8 => ?_
  refine yR ?_
  refine yM rfl rfl ?_
  refine aa rfl (bl rfl rfl rfl rfl (bn (by assumption)) (Enc.len _)) ?_
  refine yE rfl rfl rfl ?_
  try dsimp only [St.put]
  refine af rfl (eh rfl ?_)
  refine yA rfl rfl ?_
  try dsimp only [St.put]
  refine af rfl (dt rfl rfl rfl zG rfl rfl (by rfl) ?_)
  refine yN ?_
  dsimp only [St.put]
  refine K8 _ ?_
  refine eo (i := 8) rfl zG zC ?_
  dsimp only
  refine yS fun _ K9 => ?_
  refine yR ?_
  refine yF rfl rfl rfl rfl ?_
  refine yL rfl rfl rfl ?_
  refine aa rfl (bg rfl rfl (List.length_map _)) ?_
  refine yM rfl rfl ?_
  refine yN ?_
  dsimp only [St.put]
  rw [vw p.text k c.lines]
  refine K9 _ ?_
  refine az ?_
  refine cj 35 ?_
  refine zQ ?_
  refine c7 (X := Nat) (fun n => n ≤ c.lines.length) (fun n => c.lines.length - n) (fun n => [(6, .v (.int .i64 ((dr p.text x (ec p.text k c.lines n) : Nat) : Int))), (9, .any), (10, .any), (34, .v (.int .i64 (n : Int)))]) (fun n G' => G') 0 rfl ?_ ?_ (fun _ _ h => h) ?_ ?_ ?_
  ·exact Nat.zero_le _
  ·exact zF
  ·rintro n hI
   exact zL
  ·exact fun _ _ _ _ h => .inl h
  rintro n hJ
  dsimp only at hJ ⊢
  refine yS fun _ K10 => ?_
  refine yR ?_
  refine aa rfl (cn rfl rfl rfl) ?_
  refine yN ?_
  dsimp only [St.put]
  refine K10 _ ?_
  refine yS fun _ K11 => ?_
  refine ak rfl (fun hc => ?_) (fun hc => ?_)
  ·replace hc := of_decide_eq_true hc
   obtain ⟨l, hn⟩ : ∃ l, c.lines[n]? = some l := cx (by omega)
   have hlb := hwo l (ez hn)
   have hqb : dr p.text x (ec p.text k c.lines n) ≤ 600 := by
    have hle := vv ht hcx hn 0
    rw [← vu] at hle
    have := hwt (el p.text x) (ec p.text k c.lines n)
    unfold dr
    omega
   refine av ?_
   refine K11 _ ?_
   refine yS fun _ K12 => ?_
   refine az ?_
   refine yS fun _ K13 => ?_
   refine yR ?_
   refine yM rfl rfl ?_
   refine aa rfl (bl rfl rfl rfl rfl (bn (by assumption)) (Enc.len _)) ?_
   refine yL rfl rfl rfl ?_
   refine yA rfl rfl ?_
   refine yA rfl rfl ?_
   refine yN ?_
   dsimp only [St.put]
   refine K13 _ ?_
   refine yS fun _ K14 => ?_
   refine f4 [(0, none), (1, none), (2, none), (3, none), (4, none), (5, none), (6, none), (7, none), (8, none), (9, none), (10, none), (11, none)] (fun i => [11].contains i) (fun i => [10, 11].contains i) (fun i => [0, 2, 4, 5, 6, 8, 9].contains i) [] (by kernel_rfl) (by kernel_rfl) ?_
   refine ae rfl rfl rfl rfl (cb rfl rfl rfl) ?_
   try dsimp only [St.put]
   refine aw rfl rfl rfl rfl (bv rfl rfl) ?_
   refine ae rfl rfl rfl rfl (cb rfl rfl rfl) ?_
   try dsimp only [St.put]
   refine aw rfl rfl rfl rfl (bv rfl rfl) ?_
   refine xM rfl rfl rfl rfl rfl ?_
   refine xM rfl rfl rfl rfl rfl ?_
   try dsimp only [St.put]
   refine ae rfl rfl rfl rfl (bl rfl rfl rfl rfl (bn (by assumption)) (Enc.len _)) ?_
   try dsimp only [St.put]
   refine aw rfl rfl rfl rfl (bv rfl rfl) ?_
   refine xM rfl rfl rfl rfl rfl ?_
   refine ae rfl rfl rfl rfl (br rfl rfl rfl (by omega)) ?_
   refine ij ?_
   try dsimp only [St.put]
   refine g8 rfl rfl rfl (ef rfl rfl rfl (by decide) (by decide) zR (by decide) ⟨zD, ?_⟩)
   try dsimp only [St.put]
   refine gt rfl rfl rfl rfl (ba rfl rfl rfl (jh _ _ [_]) ?_)
   refine ii ?_
   dsimp only [St.put]
   refine K14 _ ?_
   refine ak rfl (fun hc => ?_) (fun hc => ?_)
   ·have hpg : inB ((fh p.text k : Int) + (n : Int)) x.fr x.to = true := by rw [er] at hc; exact hc
    refine yR ?_
    refine yM rfl rfl ?_
    refine yM rfl rfl ?_
    refine aa rfl (bg rfl rfl (List.length_map _)) ?_
    refine aa rfl (br rfl rfl rfl (by omega)) ?_
    refine yA rfl rfl ?_
    refine yN ?_
    dsimp only [St.put]
    refine K12 _ ?_
    refine yR ?_
    refine aa rfl (br rfl rfl rfl (by omega)) ?_
    refine yM rfl rfl ?_
    refine yN ?_
    dsimp only [St.put]
    have e := pv p.text x (k := k) hn
    first
    | (rw [hpg, cond_true] at e
       rw [show ((dr p.text x (ec p.text k c.lines n) : Nat) : Int) + (l.length : Int) = ((dr p.text x (ec p.text k c.lines (n + 1)) : Nat) : Int) by rw [e]; rfl]
       exact ⟨n + 1, by omega, by omega, ⟨⟨rfl, rfl⟩, zF, zB, zN, zX⟩⟩)
    | (rw [hpn, cond_false] at e
       rw [show dr p.text x (ec p.text k c.lines n) = dr p.text x (ec p.text k c.lines (n + 1)) from e.symm]
       exact ⟨n + 1, by omega, by omega, ⟨⟨rfl, rfl⟩, zF, zB, zN, zX⟩⟩)
   have hpn : inB ((fh p.text k : Int) + (n : Int)) x.fr x.to = false := by rw [er] at hc; exact hc
   refine av ?_
   refine K12 _ ?_
   refine yR ?_
   refine aa rfl (br rfl rfl rfl (by omega)) ?_
   refine yM rfl rfl ?_
   refine yN ?_
   dsimp only [St.put]
   have e := pv p.text x (k := k) hn
   first
   | (rw [hpg, cond_true] at e
      rw [show ((dr p.text x (ec p.text k c.lines n) : Nat) : Int) + (l.length : Int) = ((dr p.text x (ec p.text k c.lines (n + 1)) : Nat) : Int) by rw [e]; rfl]
      exact ⟨n + 1, by omega, by omega, ⟨⟨rfl, rfl⟩, zF, zB, zN, zX⟩⟩)
   | (rw [hpn, cond_false] at e
      rw [show dr p.text x (ec p.text k c.lines n) = dr p.text x (ec p.text k c.lines (n + 1)) from e.symm]
      exact ⟨n + 1, by omega, by omega, ⟨⟨rfl, rfl⟩, zF, zB, zN, zX⟩⟩)
  replace hc := of_decide_eq_false hc
  refine cr ?_
  refine K7 _ ?_
  refine yR ?_
  refine aa rfl (br rfl rfl rfl (by omega)) ?_
  refine yM rfl rfl ?_
  refine yN ?_
  dsimp only [St.put]
  rw [vx (n := n) hcx (by omega)]
  exact ⟨k + 1, by omega, by omega, ⟨⟨rfl, rfl⟩, zF, zB, zN, zX⟩⟩
 replace hc := of_decide_eq_false hc
 obtain rfl : k = p.text.length := by omega
 rw [List.take_length, wc]
 refine cr ?_
 refine K3 _ ?_
 refine yS fun _ K15 => ?_
 refine yR ?_
 try dsimp only [St.put]
 refine af rfl (qv (α := PlaceD) rfl ?_)
 refine yA rfl rfl ?_
 refine yN ?_
 dsimp only [St.put]
 refine K15 _ ?_
 refine yS fun _ K16 => ?_
 refine yS fun _ K17 => ?_
 refine yR ?_
 refine yF rfl rfl rfl rfl ?_
 refine yL rfl rfl rfl ?_
 refine aa rfl (bg rfl rfl (List.length_map _)) ?_
 refine yM rfl rfl ?_
 refine yN ?_
 dsimp only [St.put]
 refine K17 _ ?_
 refine az ?_
 refine cj 62 ?_
 refine zQ ?_
 refine db ((ai G nx (fe Tryd.prog 54 (0) ((fun _ => none))))) zX ?_
 dsimp only
 refine c7 (X := Nat) (fun k => k ≤ x.found.length) (fun k => x.found.length - k) (fun k => [(13, .any), (61, .v (.int .i64 (k : Int)))]) (fun k G' => (ai G nx (fe Tryd.prog 54 (k) ((ed fun q => decide (q ∈ x.found.take k)))))) 0 rfl ?_ ?_ ?_ ?_ ?_ ?_
 ·exact Nat.zero_le _
 ·exact zF
 ·rw [show (ed fun q => decide (q ∈ x.found.take 0)) = fun _ => none from xa]
  exact zX
 ·rintro k hI
  exact (by (try dsimp only); repeat' (first | exact trivial | refine ⟨?_, ?_⟩ | exact .v | exact .any | refine .elem ?_ | exact ar _ _ | exact c6 _ _ | exact cw _ _ | exact cy _ (by (try dsimp only); omega) | exact .box (by (try dsimp only); omega) | exact c5 | exact cg | exact ei (f9 _ _) | refine c4 ?_ ?_ | exact .arr (by (try dsimp only); omega) | exact .own (by (try dsimp only); omega) | exact .map (by (try dsimp only); omega) | exact cc _ | refine bk ?_ ?_ | exact ar _ _))
 ·rintro k hI
  exact (by (repeat' (refine et ?_ (by (try dsimp only); omega) ?_)); all_goals (first | exact fq zS | (repeat' (first | exact trivial | refine ⟨?_, ?_⟩ | exact .v | exact .any | refine .elem ?_ | exact ar _ _ | exact c6 _ _ | exact cw _ _ | exact cy _ (by (try dsimp only); omega) | exact .box (by (try dsimp only); omega) | exact c5 | exact cg | exact ei (f9 _ _) | refine c4 ?_ ?_ | exact .arr (by (try dsimp only); omega) | exact .own (by (try dsimp only); omega) | exact .map (by (try dsimp only); omega) | exact cc _ | refine bk ?_ ?_ | exact ar _ _))))
 rintro k hK
 dsimp only at hK ⊢
 refine yS fun _ K18 => ?_
 refine yR ?_
 refine aa rfl (cn rfl rfl rfl) ?_
 refine yN ?_
 dsimp only [St.put]
 refine K18 _ ?_
 refine yS fun _ K19 => ?_
 refine ak rfl (fun hc => ?_) (fun hc => ?_)
 ·replace hc := of_decide_eq_true hc
  obtain ⟨q, hq⟩ : ∃ q, x.found[k]? = some q := cx (by omega)
  refine av ?_
  refine K19 _ ?_
  refine yS fun _ K20 => ?_
  refine az ?_
  refine yS fun _ K21 => ?_
  refine yR ?_
  refine aa rfl (bl rfl rfl rfl rfl (bn (by assumption)) (Enc.len _)) ?_
  refine yE rfl rfl rfl ?_
  try dsimp only [St.put]
  refine af rfl (eh rfl ?_)
  try dsimp only [St.put]
  refine af rfl (dt rfl rfl rfl zG rfl rfl (by rfl) ?_)
  refine yN ?_
  dsimp only [St.put]
  refine K21 _ ?_
  refine eo (i := 13) rfl zG zC ?_
  dsimp only
  refine yR ?_
  refine yM rfl rfl ?_
  refine yE rfl rfl rfl ?_
  try dsimp only [St.put]
  refine af rfl (lk (q) rfl rfl rfl zG rfl (xb hq) ?_)
  refine yN ?_
  dsimp only [St.put]
  refine K20 _ ?_
  refine yR ?_
  refine aa rfl (br rfl rfl rfl (by omega)) ?_
  refine yM rfl rfl ?_
  refine yN ?_
  dsimp only [St.put]
  exact ⟨k + 1, by omega, by omega, ⟨⟨rfl, rfl⟩, zF, zB, zN, zX⟩⟩
 replace hc := of_decide_eq_false hc
 obtain rfl : k = x.found.length := by omega
 rw [List.take_length, show (fun q => decide (q ∈ x.found)) = dz x.found (x.well.take 0) from funext fun q => (xc x.found q).symm]
 refine cr ?_
 refine K16 _ ?_
 refine yS fun _ K22 => ?_
 by_cases hB : bf p.text x = []
 ·refine yR ?_
  refine yA rfl rfl ?_
  refine yN ?_
  dsimp only [St.put]
  refine K22 _ ?_
  refine yS fun _ K23 => ?_
  refine yS fun _ K24 => ?_
  refine yR ?_
  refine yF rfl rfl rfl rfl ?_
  refine yL rfl rfl rfl ?_
  refine aa rfl (bg rfl rfl (List.length_map _)) ?_
  refine yM rfl rfl ?_
  refine yN ?_
  dsimp only [St.put]
  refine K24 _ ?_
  refine az ?_
  refine cj 72 ?_
  refine zQ ?_
  refine db ((ai G nx (fe Tryd.prog 54 (x.found.length) ((ed (dz x.found (x.well.take 0))))))) zX ?_
  dsimp only
  refine c7 (X := Nat) (fun k => k ≤ x.well.length) (fun k => x.well.length - k) (fun k => [(16, .any), (71, .v (.int .i64 (k : Int)))]) (fun k G' => (ai G nx (fe Tryd.prog 54 ((x.found.length + k)) ((ed (dz x.found (x.well.take k))))))) 0 rfl ?_ ?_ ?_ ?_ ?_ ?_
  ·exact Nat.zero_le _
  ·exact zF
  ·exact zX
  ·rintro k hI
   exact (by (try dsimp only); repeat' (first | exact trivial | refine ⟨?_, ?_⟩ | exact .v | exact .any | refine .elem ?_ | exact ar _ _ | exact c6 _ _ | exact cw _ _ | exact cy _ (by (try dsimp only); omega) | exact .box (by (try dsimp only); omega) | exact c5 | exact cg | exact ei (f9 _ _) | refine c4 ?_ ?_ | exact .arr (by (try dsimp only); omega) | exact .own (by (try dsimp only); omega) | exact .map (by (try dsimp only); omega) | exact cc _ | refine bk ?_ ?_ | exact ar _ _))
  ·rintro k hI
   exact (by (repeat' (refine et ?_ (by (try dsimp only); omega) ?_)); all_goals (first | exact fq zS | (repeat' (first | exact trivial | refine ⟨?_, ?_⟩ | exact .v | exact .any | refine .elem ?_ | exact ar _ _ | exact c6 _ _ | exact cw _ _ | exact cy _ (by (try dsimp only); omega) | exact .box (by (try dsimp only); omega) | exact c5 | exact cg | exact ei (f9 _ _) | refine c4 ?_ ?_ | exact .arr (by (try dsimp only); omega) | exact .own (by (try dsimp only); omega) | exact .map (by (try dsimp only); omega) | exact cc _ | refine bk ?_ ?_ | exact ar _ _))))
  rintro k hK
  dsimp only at hK ⊢
  refine yS fun _ K25 => ?_
  refine yR ?_
  refine aa rfl (cn rfl rfl rfl) ?_
  refine yN ?_
  dsimp only [St.put]
  refine K25 _ ?_
  refine yS fun _ K26 => ?_
  refine ak rfl (fun hc => ?_) (fun hc => ?_)
  ·replace hc := of_decide_eq_true hc
   obtain ⟨q, hq⟩ : ∃ q, x.well[k]? = some q := cx (by omega)
   have hbt := ra x.found x.well k
   refine av ?_
   refine K26 _ ?_
   refine yS fun _ K27 => ?_
   refine az ?_
   refine yS fun _ K28 => ?_
   refine yR ?_
   refine aa rfl (bl rfl rfl rfl rfl (bn (by assumption)) (Enc.len _)) ?_
   refine yE rfl rfl rfl ?_
   try dsimp only [St.put]
   refine af rfl (eh rfl ?_)
   try dsimp only [St.put]
   refine af rfl (dt rfl rfl rfl zG rfl rfl (by rfl) ?_)
   refine yN ?_
   dsimp only [St.put]
   refine K28 _ ?_
   refine eo (i := 16) rfl zG zC ?_
   dsimp only
   refine yS fun _ K29 => ?_
   refine yR ?_
   refine yM rfl rfl ?_
   refine yE rfl rfl rfl ?_
   try dsimp only [St.put]
   refine du rfl (na q rfl rfl zG trivial rfl (qg _ _)) ?_
   refine yN ?_
   dsimp only [St.put]
   refine K29 _ ?_
   refine ak rfl (fun hc => ?_) (fun hc => ?_)
   ·have hin : q ∈ x.found := by
     rw [ld hnd2 hq] at hc
     exact of_decide_eq_true hc
    refine yS fun _ K30 => ?_
    refine yR ?_
    refine yM rfl rfl ?_
    refine yE rfl rfl rfl ?_
    try dsimp only [St.put]
    refine af rfl (ef rfl rfl rfl (by decide) (by decide) zR (by decide) ?_)
    try dsimp only [St.put]
    refine af rfl (sx rfl rfl (.inr rfl) rfl (show 1 ≤ 3 by decide) (fun r hr => by rw [List.mem_singleton] at hr; subst hr; rfl) (by simp) (by simp) ?_)
    refine yA rfl rfl ?_
    refine yN ?_
    dsimp only [St.put]
    refine K30 _ ?_
    refine yR ?_
    refine yM rfl rfl ?_
    refine yE rfl rfl rfl ?_
    try dsimp only [St.put]
    refine af rfl (qw q rfl rfl zG rfl (qf hnd2 hq hin) ?_)
    refine yN ?_
    dsimp only [St.put]
    refine K27 _ ?_
    refine yR ?_
    refine aa rfl (br rfl rfl rfl (by omega)) ?_
    refine yM rfl rfl ?_
    refine yN ?_
    dsimp only [St.put]
    first
    | exact absurd (show q ∈ x.found from hin) (qy hp hB hq)
    | exact ⟨k + 1, by omega, by omega, ⟨⟨rfl, rfl⟩, zF, zB, zN, zX⟩⟩
   have hout : q ∉ x.found := by
    rw [ld hnd2 hq] at hc
    exact of_decide_eq_false hc
   refine yR ?_
   refine yM rfl rfl ?_
   refine yE rfl rfl rfl ?_
   try dsimp only [St.put]
   refine af rfl (lk (q) rfl rfl rfl zG rfl (qe hnd2 hq hout) ?_)
   refine yN ?_
   dsimp only [St.put]
   refine K27 _ ?_
   refine yR ?_
   refine aa rfl (br rfl rfl rfl (by omega)) ?_
   refine yM rfl rfl ?_
   refine yN ?_
   dsimp only [St.put]
   first
   | exact absurd (show q ∈ x.found from hin) (qy hp hB hq)
   | exact ⟨k + 1, by omega, by omega, ⟨⟨rfl, rfl⟩, zF, zB, zN, zX⟩⟩
  replace hc := of_decide_eq_false hc
  obtain rfl : k = x.well.length := by omega
  refine cr ?_
  refine K23 _ ?_
  refine yS fun _ K31 => ?_
  refine yR ?_
  refine yM rfl rfl ?_
  try dsimp only [St.put]
  refine af rfl (ba rfl rfl rfl (yj) ?_)
  refine yA rfl rfl ?_
  refine yN ?_
  dsimp only [St.put]
  refine K31 _ ?_
  refine re 17 54 3 rfl (by decide) ?_
  dsimp only
  refine yS fun _ K32 => ?_
  refine yS fun _ K33 => ?_
  refine yR ?_
  refine yM rfl rfl ?_
  try dsimp only [St.put]
  refine af rfl (qt rfl rfl zG fun r β cl ks hnd hks0 hinj => ?_)
  refine yN ?_
  dsimp only [St.put]
  refine K33 _ ?_
  rw [hmw] at hks0
  rw [hmw]
  refine az ?_
  refine cj 91 ?_
  refine zQ ?_
  refine db (ai (ai (ai (ai G nx (ji Tryd.prog 54 (x.found.length + x.well.length) (ed (dz x.found x.well)) β cl)) (nx + 1) (.arr 0 0 54 3 0 [])) (nx + 1 + 1) (.raw 0 (.mapIter (some r) cl (gl β ([] : List PlaceD)) cl))) (nx + 1 + 1 + 1) (.fact (.map (some r)) (.map nx))) zX ?_
  dsimp only
  refine c7 (X := List PlaceD × Nat × Nat × Nat) (fun y => (∀ z ∈ y.1, z ∈ ks) ∧ y.1.Nodup) (fun y => nl ks y.1) (fun y => [(17, .own (nx + 1) y.2.2.1 (([] : List PlaceD) ++ y.1).length), (18, .any)]) (fun y G' => (ai (ai (ai (ai G nx (ji Tryd.prog 54 ((x.found.length + x.well.length)) (ed ((dz x.found x.well))) β cl)) ((nx + 1)) (.arr y.2.2.1 y.2.2.2 54 3 ((([] : List PlaceD) ++ y.1)).length (ci ((([] : List PlaceD) ++ y.1))))) ((nx + 1 + 1)) (.raw y.2.1 (.mapIter (some r) cl (gl β y.1) cl))) ((nx + 1 + 1 + 1)) (.fact (.map (some r)) (.map nx)))) ([], 0, 0, 0) rfl ?_ ?_ ?_ ?_ ?_ ?_
  ·exact ⟨fun z hz => by simp at hz, List.nodup_nil⟩
  ·exact zF
  ·exact zX
  ·rintro ⟨done, wi, vl, wv⟩ hI
   exact (by (try dsimp only); repeat' (first | exact trivial | refine ⟨?_, ?_⟩ | exact .v | exact .any | refine .elem ?_ | exact ar _ _ | exact c6 _ _ | exact cw _ _ | exact cy _ (by (try dsimp only); omega) | exact .box (by (try dsimp only); omega) | exact c5 | exact cg | exact lj (f9 _ _) | exact cc _ | refine c4 ?_ ?_ | exact .arr (by (try dsimp only); omega) | exact .own (by (try dsimp only); omega) | exact .map (by (try dsimp only); omega) | exact cc _ | refine bk ?_ ?_ | exact ar _ _))
  ·rintro ⟨done, wi, vl, wv⟩ hI
   exact (by (repeat' (refine et ?_ (by (try dsimp only); omega) ?_)); all_goals (first | exact fq zS | (repeat' (first | exact trivial | refine ⟨?_, ?_⟩ | exact .v | exact .any | refine .elem ?_ | exact ar _ _ | exact c6 _ _ | exact cw _ _ | exact cy _ (by (try dsimp only); omega) | exact .box (by (try dsimp only); omega) | exact c5 | exact cg | exact lj (f9 _ _) | exact cc _ | refine c4 ?_ ?_ | exact .arr (by (try dsimp only); omega) | exact .own (by (try dsimp only); omega) | exact .map (by (try dsimp only); omega) | exact cc _ | refine bk ?_ ?_ | exact ar _ _))))
  rintro ⟨done, wi, vl, wv⟩ hI8
  dsimp only at hI8 ⊢
  refine yS fun _ K34 => ?_
  refine yR ?_
  try dsimp only [St.put]
  refine af rfl (qu (done := done) rfl rfl zG zG zG (hks0) (hinj) (hI8.1) (fun hend => ?_) (fun y c hym hyk hyd => ?_))
  ·have hdl := k8 hp hI8.2 (fun q hq => onceM_ne.1 ((hks0 q).2 (hI8.1 q hq)))
   have hdk : ∀ q, q ∈ done ↔ dz x.found x.well q = true := fun q => ⟨fun hq => onceM_ne.1 ((hks0 q).2 (hI8.1 q hq)), fun hq => hend q ((hks0 q).1 (onceM_ne.2 hq))⟩
   have hpb := qd hp ht (fun q hq => (hdk q).1 hq)
   refine yX rfl rfl rfl rfl ?_
   refine yN ?_
   dsimp only [St.put]
   refine K34 _ ?_
   refine yS fun _ K35 => ?_
   refine ak rfl (fun h => by cases h) (fun _ => ?_)
   refine cr ?_
   refine K32 _ ?_
   refine yS fun _ K36 => ?_
   have hpb2 : ∀ y ∈ ([] : List PlaceD) ++ done, PBd9 y := fun y hy => hpb y (by simpa using hy)
   refine yR ?_
   refine yM rfl rfl ?_
   try dsimp only [St.put]
   refine af rfl (qs pz PBd9 ig rfl rfl rfl rfl zG rfl rfl rfl (fun y hy => hy.plain) hpb2 (by first | (rw [List.length_append]; omega) | (simp only [List.nil_append]; omega)) (fun a b _ _ => ov a b _ _) qc (fun ys hperm hsort => ?_))
   refine yN ?_
   dsimp only [St.put]
   have hlen := hperm.length_eq
   rw [← hB] at hperm hlen
   obtain rfl := rg hp hI8.2 hdk hperm hsort
   refine K36 _ ?_
   refine vo 14 (lst ([] : List PlaceD)) rfl Wk.tok ?_
   refine sy 17 (ca p.text x) rfl zG rfl rfl (by rw [hlen, hB]) ?_
   dsimp only
   refine rc [(0, none), (1, none), (2, none), (3, none), (4, none), (5, none), (6, none), (7, none), (10, none), (11, none), (12, none), (13, none), (14, none), (17, none), (18, none), (19, none), (20, none), (21, none)] (fun i => [23, 26, 29, 32].contains i) (fun i => [0, 1, 2, 3, 4, 5, 7, 10, 11, 12, 14, 17, 18, 19, 21].contains i) 15 (rl [8, 2, 5, 2, 5, 11]) [nB] (by kernel_rfl) (by kernel_rfl) ?_
   refine xM rfl rfl rfl rfl rfl ?_
   refine xM rfl rfl rfl rfl rfl ?_
   refine xM rfl rfl rfl rfl rfl ?_
   refine xM rfl rfl rfl rfl rfl ?_
   refine ae rfl rfl rfl rfl (fb rfl rfl) ?_
   refine ae rfl rfl rfl rfl (dj rfl rfl) ?_
   try dsimp only [St.put]
   refine aw rfl rfl rfl rfl (gg rfl rfl zG (by simp) (by first | rfl | assumption)) ?_
   refine xM rfl rfl rfl rfl rfl ?_
   refine xM rfl rfl rfl rfl rfl ?_
   refine ae rfl rfl rfl rfl (fb rfl rfl) ?_
   refine ae rfl rfl rfl rfl (dj rfl rfl) ?_
   try dsimp only [St.put]
   refine aw rfl rfl rfl rfl (gg rfl rfl zG (by simp) (by first | rfl | assumption)) ?_
   refine xM rfl rfl rfl rfl rfl ?_
   refine xM rfl rfl rfl rfl rfl ?_
   refine ae rfl rfl rfl rfl (fb rfl rfl) ?_
   refine ae rfl rfl rfl rfl (dj rfl rfl) ?_
   try dsimp only [St.put]
   refine aw rfl rfl rfl rfl (gg rfl rfl zG (by simp) (by first | rfl | assumption)) ?_
   refine xM rfl rfl rfl rfl rfl ?_
   refine bq ⟨zD, ?_⟩
   dsimp only [St.put]
   refine udd ws al bo (dw p.text x : Int) (ca p.text x) (([] : List PlaceD)) nB a1 a2 a3 _ rfl (by kernel_rfl) (by kernel_rfl) (by kernel_rfl) rfl rfl rfl rfl rfl rfl rfl rfl rfl rfl rfl rfl rfl zG zG zG zG d1 d2 d3 d4 d5 d6 hw ha hb ?_
   dsimp only
   refine je [(24, none), (25, none)] 7 (rl [26, 7]) (by kernel_rfl) ?_
   refine ae rfl rfl rfl rfl (fb rfl rfl) ?_
   refine ae rfl rfl rfl rfl (dj rfl rfl) ?_
   refine bq ⟨zD, ?_⟩
   refine iz [26] (by kernel_rfl) (by simp) ?_
   refine jd ?_ ?_
   ·try dsimp only [St.put]
    refine jb rfl rfl rfl rfl (iw rfl rfl rfl zG (by constructor) rfl zO ?_)
    refine je [(27, none), (28, none)] 4 (rl [29, 4]) (by kernel_rfl) ?_
    refine ae rfl rfl rfl rfl (fb rfl rfl) ?_
    refine ae rfl rfl rfl rfl (dj rfl rfl) ?_
    refine bq ⟨zD, ?_⟩
    refine iz [29] (by kernel_rfl) (by simp) ?_
    refine jd ?_ ?_
    ·try dsimp only [St.put]
     refine jb rfl rfl rfl rfl (iw rfl rfl rfl zG (by constructor) rfl zO ?_)
     refine je [(30, none), (31, none)] 1 (rl [32, 1]) (by kernel_rfl) ?_
     refine ae rfl rfl rfl rfl (fb rfl rfl) ?_
     refine ae rfl rfl rfl rfl (dj rfl rfl) ?_
     refine bq ⟨zD, ?_⟩
     refine iz [32] (by kernel_rfl) (by simp) ?_
     refine jd ?_ ?_
     ·try dsimp only [St.put]
      refine jb rfl rfl rfl rfl (iw rfl rfl rfl zG (by constructor) rfl zO ?_)
      dsimp only [St.put]
      refine ri (by kernel_rfl) ?_
      rw [hB]
      refine qr rfl (.inl rfl) zN (px zG zG zG zG fun n o q1 q2 q3 q4 h => ?_)
      have hn := hlt n o h
      (try dsimp only)
      repeat (first | exact h | rw [cm (by omega)] | rw [jk (by omega)])
     exact jc
    exact jc
   exact jc
  have hz0 := ph hym
  subst hz0
  obtain ⟨z, hz⟩ : ∃ z, z = y := ⟨_, rfl⟩
  subst hz
  have hIn : ∀ z ∈ ks, ∀ x ∈ done ++ [z], x ∈ ks := fun z hz x hx => by
   rcases List.mem_append.1 hx with hx | hx
   ·exact hI8.1 x hx
   rw [List.mem_singleton] at hx; exact hx ▸ hz
  have hIu : ∀ z, z ∉ done → (done ++ [z]).Nodup := fun z hz => List.nodup_append.2 ⟨hI8.2, by simp, fun a ha b hb => by
   rw [List.mem_singleton] at hb; subst hb; exact fun e => hz (e ▸ ha)⟩
  have hdl := k8 hp hI8.2 (fun q hq => onceM_ne.1 ((hks0 q).2 (hI8.1 q hq)))
  refine yX rfl rfl rfl rfl ?_
  refine yN ?_
  dsimp only [St.put]
  refine K34 _ ?_
  refine yS fun _ K37 => ?_
  refine ak rfl (fun _ => ?_) (fun h => by cases h)
  refine av ?_
  refine K37 _ ?_
  refine az ?_
  refine yS fun _ K38 => ?_
  refine yR ?_
  try dsimp only [St.put]
  refine du rfl (p8 (fx := nx + 1 + 1 + 1) (n := nx) rfl rfl zG trivial zG zG trivial (by assumption)) ?_
  refine yX rfl rfl rfl rfl ?_
  try dsimp only [St.put]
  refine af rfl (eh rfl ?_)
  try dsimp only [St.put]
  refine af rfl (dt rfl rfl rfl zG rfl rfl (by rfl) ?_)
  refine yN ?_
  dsimp only [St.put]
  refine K38 _ ?_
  refine eo (i := 18) rfl zG zC ?_
  dsimp only
  refine yR ?_
  refine yM rfl rfl ?_
  try dsimp only [St.put]
  refine du rfl (d9 rfl rfl rfl) ?_
  try dsimp only [St.put]
  refine af rfl (ef rfl rfl rfl (by decide) (by decide) zR (by decide) ?_)
  try dsimp only [St.put]
  refine af rfl (ki (xs := ([] : List PlaceD) ++ done) [z] rfl rfl zG rfl rfl rfl rfl zA zA (fun v3 => ?_))
  refine yA rfl rfl ?_
  refine yN ?_
  dsimp only [St.put]
  simp only [List.append_assoc]
  exact ⟨(done ++ [z], wi + 1, v3, wv), ql hyk hyd, ⟨hIn z hyk, hIu z hyd⟩, ⟨⟨rfl, rfl⟩, zF, zB, zN, zX⟩⟩
 refine yR ?_
 refine yA rfl rfl ?_
 refine yN ?_
 dsimp only [St.put]
 refine K22 _ ?_
 refine s7 14 54 3 rfl (by decide) ?_
 dsimp only [List.set_cons_zero, List.set_cons_succ]
 refine yS fun _ K39 => ?_
 refine yS fun _ K40 => ?_
 refine yR ?_
 refine yF rfl rfl rfl rfl ?_
 refine yL rfl rfl rfl ?_
 refine aa rfl (bg rfl rfl (List.length_map _)) ?_
 refine yM rfl rfl ?_
 refine yN ?_
 dsimp only [St.put]
 refine K40 _ ?_
 refine az ?_
 refine cj 72 ?_
 refine zQ ?_
 refine db (ai ((ai G nx (fe Tryd.prog 54 (x.found.length) ((ed (dz x.found (x.well.take 0))))))) (nx + 1) (.tip 0 54 3)) zX ?_
 dsimp only
 refine c7 (X := Nat) (fun k => k ≤ x.well.length) (fun k => x.well.length - k) (fun k => [(14, .list ((jm x.found x.well k).map cells) (.tip (nx + 1))), (16, .any), (71, .v (.int .i64 (k : Int)))]) (fun k G' => ai ((ai G nx (fe Tryd.prog 54 ((x.found.length + k)) ((ed (dz x.found (x.well.take k))))))) (nx + 1) (.tip (jm x.found x.well k).length 54 3)) 0 rfl ?_ ?_ ?_ ?_ ?_ ?_
 ·exact Nat.zero_le _
 ·exact zF
 ·exact zX
 ·rintro k hI
  exact (by (try dsimp only); repeat' (first | exact trivial | refine ⟨?_, ?_⟩ | exact .v | exact .any | refine .elem ?_ | exact ar _ _ | exact c6 _ _ | exact cw _ _ | exact cy _ (by (try dsimp only); omega) | exact .box (by (try dsimp only); omega) | exact c5 | exact cg | exact ei (f9 _ _) | refine c4 ?_ ?_ | exact .arr (by (try dsimp only); omega) | exact .own (by (try dsimp only); omega) | exact .map (by (try dsimp only); omega) | exact cc _ | refine bk ?_ ?_ | exact ar _ _))
 ·rintro k hI
  exact (by (repeat' (refine et ?_ (by (try dsimp only); omega) ?_)); all_goals (first | exact fq zS | (repeat' (first | exact trivial | refine ⟨?_, ?_⟩ | exact .v | exact .any | refine .elem ?_ | exact ar _ _ | exact c6 _ _ | exact cw _ _ | exact cy _ (by (try dsimp only); omega) | exact .box (by (try dsimp only); omega) | exact c5 | exact cg | exact ei (f9 _ _) | refine c4 ?_ ?_ | exact .arr (by (try dsimp only); omega) | exact .own (by (try dsimp only); omega) | exact .map (by (try dsimp only); omega) | exact cc _ | refine bk ?_ ?_ | exact ar _ _))))
 rintro k hK
 dsimp only at hK ⊢
 refine yS fun _ K41 => ?_
 refine yR ?_
 refine aa rfl (cn rfl rfl rfl) ?_
 refine yN ?_
 dsimp only [St.put]
 refine K41 _ ?_
 refine yS fun _ K42 => ?_
 refine ak rfl (fun hc => ?_) (fun hc => ?_)
 ·replace hc := of_decide_eq_true hc
  obtain ⟨q, hq⟩ : ∃ q, x.well[k]? = some q := cx (by omega)
  have hbt := ra x.found x.well k
  refine av ?_
  refine K42 _ ?_
  refine yS fun _ K43 => ?_
  refine az ?_
  refine yS fun _ K44 => ?_
  refine yR ?_
  refine aa rfl (bl rfl rfl rfl rfl (bn (by assumption)) (Enc.len _)) ?_
  refine yE rfl rfl rfl ?_
  try dsimp only [St.put]
  refine af rfl (eh rfl ?_)
  try dsimp only [St.put]
  refine af rfl (dt rfl rfl rfl zG rfl rfl (by rfl) ?_)
  refine yN ?_
  dsimp only [St.put]
  refine K44 _ ?_
  refine eo (i := 16) rfl zG zC ?_
  dsimp only
  refine yS fun _ K45 => ?_
  refine yR ?_
  refine yM rfl rfl ?_
  refine yE rfl rfl rfl ?_
  try dsimp only [St.put]
  refine du rfl (na q rfl rfl zG trivial rfl (qg _ _)) ?_
  refine yN ?_
  dsimp only [St.put]
  refine K45 _ ?_
  refine ak rfl (fun hc => ?_) (fun hc => ?_)
  ·have hin : q ∈ x.found := by
    rw [ld hnd2 hq] at hc
    exact of_decide_eq_true hc
   refine yS fun _ K46 => ?_
   refine yR ?_
   refine yM rfl rfl ?_
   refine yE rfl rfl rfl ?_
   try dsimp only [St.put]
   refine af rfl (ef rfl rfl rfl (by decide) (by decide) zR (by decide) ?_)
   try dsimp only [St.put]
   refine af rfl (ma ([q]) rfl rfl zG zE rfl rfl zA ?_ zA)
   refine yA rfl rfl ?_
   refine yN ?_
   dsimp only [St.put]
   refine K46 _ ?_
   refine yR ?_
   refine yM rfl rfl ?_
   refine yE rfl rfl rfl ?_
   try dsimp only [St.put]
   refine af rfl (qw q rfl rfl zG rfl (qf hnd2 hq hin) ?_)
   refine yN ?_
   dsimp only [St.put]
   refine K43 _ ?_
   refine yR ?_
   refine aa rfl (br rfl rfl rfl (by omega)) ?_
   refine yM rfl rfl ?_
   refine yN ?_
   dsimp only [St.put]
   have e := qz (F := x.found) hq
   first
   | (have hi : q ∈ x.found := hin
      rw [decide_eq_true hi, cond_true] at e
      simp only [← e]
      exact ⟨k + 1, by omega, by omega, ⟨⟨rfl, rfl⟩, zF, zB, zN, zX⟩⟩)
   | (have hi : q ∉ x.found := hout
      rw [decide_eq_false hi, cond_false, List.append_nil] at e
      simp only [← e]
      exact ⟨k + 1, by omega, by omega, ⟨⟨rfl, rfl⟩, zF, zB, zN, zX⟩⟩)
  have hout : q ∉ x.found := by
   rw [ld hnd2 hq] at hc
   exact of_decide_eq_false hc
  refine yR ?_
  refine yM rfl rfl ?_
  refine yE rfl rfl rfl ?_
  try dsimp only [St.put]
  refine af rfl (lk (q) rfl rfl rfl zG rfl (qe hnd2 hq hout) ?_)
  refine yN ?_
  dsimp only [St.put]
  refine K43 _ ?_
  refine yR ?_
  refine aa rfl (br rfl rfl rfl (by omega)) ?_
  refine yM rfl rfl ?_
  refine yN ?_
  dsimp only [St.put]
  have e := qz (F := x.found) hq
  first
  | (have hi : q ∈ x.found := hin
     rw [decide_eq_true hi, cond_true] at e
     simp only [← e]
     exact ⟨k + 1, by omega, by omega, ⟨⟨rfl, rfl⟩, zF, zB, zN, zX⟩⟩)
  | (have hi : q ∉ x.found := hout
     rw [decide_eq_false hi, cond_false, List.append_nil] at e
     simp only [← e]
     exact ⟨k + 1, by omega, by omega, ⟨⟨rfl, rfl⟩, zF, zB, zN, zX⟩⟩)
 replace hc := of_decide_eq_false hc
 obtain rfl : k = x.well.length := by omega
 rw [yn hp]
 refine cr ?_
 refine K39 _ ?_
 refine yS fun _ K47 => ?_
 refine vo 14 (lst (bf p.text x)) rfl Wk.tok ?_
 refine yR ?_
 refine yM rfl rfl ?_
 try dsimp only [St.put]
 refine af rfl (sv rfl rfl rfl (uc0 (bf p.text x) hB (by omega) _ _) ?_)
 refine yA rfl rfl ?_
 refine yN ?_
 dsimp only [St.put]
 refine K47 _ ?_
 refine yS fun _ K48 => ?_
 refine yS fun _ K49 => ?_
 refine yR ?_
 refine yM rfl rfl ?_
 try dsimp only [St.put]
 refine af rfl (qt rfl rfl zG fun r β cl ks hnd hks0 hinj => ?_)
 refine yN ?_
 dsimp only [St.put]
 refine K49 _ ?_
 rw [hmw] at hks0
 rw [hmw]
 refine az ?_
 refine cj 91 ?_
 refine zQ ?_
 refine db (ai (ai (ai (ai G nx (ji Tryd.prog 54 (x.found.length + x.well.length) (ed (dz x.found x.well)) β cl)) (nx + 1 + 1) (.arr 0 0 54 3 (bf p.text x).length (ci (bf p.text x)))) (nx + 1 + 1 + 1) (.raw 0 (.mapIter (some r) cl (gl β ([] : List PlaceD)) cl))) (nx + 1 + 1 + 1 + 1) (.fact (.map (some r)) (.map nx))) zX ?_
 dsimp only
 refine c7 (X := List PlaceD × Nat × Nat × Nat) (fun y => (∀ z ∈ y.1, z ∈ ks) ∧ y.1.Nodup) (fun y => nl ks y.1) (fun y => [(17, .own (nx + 1 + 1) y.2.2.1 (bf p.text x ++ y.1).length), (18, .any)]) (fun y G' => (ai (ai (ai (ai G nx (ji Tryd.prog 54 ((x.found.length + x.well.length)) (ed ((dz x.found x.well))) β cl)) ((nx + 1 + 1)) (.arr y.2.2.1 y.2.2.2 54 3 ((bf p.text x ++ y.1)).length (ci ((bf p.text x ++ y.1))))) ((nx + 1 + 1 + 1)) (.raw y.2.1 (.mapIter (some r) cl (gl β y.1) cl))) ((nx + 1 + 1 + 1 + 1)) (.fact (.map (some r)) (.map nx)))) ([], 0, 0, 0) rfl ?_ ?_ ?_ ?_ ?_ ?_
 ·exact ⟨fun z hz => by simp at hz, List.nodup_nil⟩
 ·simp only [List.append_nil]
  exact zF
 ·simp only [List.append_nil]
  exact zX
 ·rintro ⟨done, wi, vl, wv⟩ hI
  exact (by (try dsimp only); repeat' (first | exact trivial | refine ⟨?_, ?_⟩ | exact .v | exact .any | refine .elem ?_ | exact ar _ _ | exact c6 _ _ | exact cw _ _ | exact cy _ (by (try dsimp only); omega) | exact .box (by (try dsimp only); omega) | exact c5 | exact cg | exact lj (f9 _ _) | exact cc _ | refine c4 ?_ ?_ | exact .arr (by (try dsimp only); omega) | exact .own (by (try dsimp only); omega) | exact .map (by (try dsimp only); omega) | exact cc _ | refine bk ?_ ?_ | exact ar _ _))
 ·rintro ⟨done, wi, vl, wv⟩ hI
  exact (by (repeat' (refine et ?_ (by (try dsimp only); omega) ?_)); all_goals (first | exact fq zS | (repeat' (first | exact trivial | refine ⟨?_, ?_⟩ | exact .v | exact .any | refine .elem ?_ | exact ar _ _ | exact c6 _ _ | exact cw _ _ | exact cy _ (by (try dsimp only); omega) | exact .box (by (try dsimp only); omega) | exact c5 | exact cg | exact lj (f9 _ _) | exact cc _ | refine c4 ?_ ?_ | exact .arr (by (try dsimp only); omega) | exact .own (by (try dsimp only); omega) | exact .map (by (try dsimp only); omega) | exact cc _ | refine bk ?_ ?_ | exact ar _ _))))
 rintro ⟨done, wi, vl, wv⟩ hI8
 dsimp only at hI8 ⊢
 refine yS fun _ K50 => ?_
 refine yR ?_
 try dsimp only [St.put]
 refine af rfl (qu (done := done) rfl rfl zG zG zG (hks0) (hinj) (hI8.1) (fun hend => ?_) (fun y c hym hyk hyd => ?_))
 ·have hdl := k8 hp hI8.2 (fun q hq => onceM_ne.1 ((hks0 q).2 (hI8.1 q hq)))
  have hdk : ∀ q, q ∈ done ↔ dz x.found x.well q = true := fun q => ⟨fun hq => onceM_ne.1 ((hks0 q).2 (hI8.1 q hq)), fun hq => hend q ((hks0 q).1 (onceM_ne.2 hq))⟩
  have hpb := qd hp ht (fun q hq => (hdk q).1 hq)
  refine yX rfl rfl rfl rfl ?_
  refine yN ?_
  dsimp only [St.put]
  refine K50 _ ?_
  refine yS fun _ K51 => ?_
  refine ak rfl (fun h => by cases h) (fun _ => ?_)
  refine cr ?_
  refine K48 _ ?_
  refine yS fun _ K52 => ?_
  have hpb2 : ∀ y ∈ bf p.text x ++ done, PBd9 y := fun y hy => by
   rcases List.mem_append.1 hy with hy | hy
   ·exact yo hp ht hy
   exact hpb y hy
  refine yR ?_
  refine yM rfl rfl ?_
  try dsimp only [St.put]
  refine af rfl (qs pz PBd9 ig rfl rfl rfl rfl zG rfl rfl rfl (fun y hy => hy.plain) hpb2 (by first | (rw [List.length_append]; omega) | (simp only [List.nil_append]; omega)) (fun a b _ _ => ov a b _ _) qc (fun ys hperm hsort => ?_))
  refine yN ?_
  dsimp only [St.put]
  have hlen := hperm.length_eq
  obtain rfl := rg hp hI8.2 hdk hperm hsort
  refine K52 _ ?_
  refine sy 17 (ca p.text x) rfl zG rfl rfl hlen.symm ?_
  dsimp only
  refine rc [(0, none), (1, none), (2, none), (3, none), (4, none), (5, none), (6, none), (7, none), (10, none), (11, none), (12, none), (13, none), (14, none), (17, none), (18, none), (19, none), (20, none), (21, none)] (fun i => [23, 26, 29, 32].contains i) (fun i => [0, 1, 2, 3, 4, 5, 7, 10, 11, 12, 14, 17, 18, 19, 21].contains i) 15 (rl [8, 2, 5, 2, 5, 11]) [nB] (by kernel_rfl) (by kernel_rfl) ?_
  refine xM rfl rfl rfl rfl rfl ?_
  refine xM rfl rfl rfl rfl rfl ?_
  refine xM rfl rfl rfl rfl rfl ?_
  refine xM rfl rfl rfl rfl rfl ?_
  refine ae rfl rfl rfl rfl (fb rfl rfl) ?_
  refine ae rfl rfl rfl rfl (dj rfl rfl) ?_
  try dsimp only [St.put]
  refine aw rfl rfl rfl rfl (gg rfl rfl zG (by simp) (by first | rfl | assumption)) ?_
  refine xM rfl rfl rfl rfl rfl ?_
  refine xM rfl rfl rfl rfl rfl ?_
  refine ae rfl rfl rfl rfl (fb rfl rfl) ?_
  refine ae rfl rfl rfl rfl (dj rfl rfl) ?_
  try dsimp only [St.put]
  refine aw rfl rfl rfl rfl (gg rfl rfl zG (by simp) (by first | rfl | assumption)) ?_
  refine xM rfl rfl rfl rfl rfl ?_
  refine xM rfl rfl rfl rfl rfl ?_
  refine ae rfl rfl rfl rfl (fb rfl rfl) ?_
  refine ae rfl rfl rfl rfl (dj rfl rfl) ?_
  try dsimp only [St.put]
  refine aw rfl rfl rfl rfl (gg rfl rfl zG (by simp) (by first | rfl | assumption)) ?_
  refine xM rfl rfl rfl rfl rfl ?_
  refine bq ⟨zD, ?_⟩
  dsimp only [St.put]
  refine udd ws al bo (dw p.text x : Int) (ca p.text x) (bf p.text x) nB a1 a2 a3 _ rfl (by kernel_rfl) (by kernel_rfl) (by kernel_rfl) rfl rfl rfl rfl rfl rfl rfl rfl rfl rfl rfl rfl rfl zG zG zG zG d1 d2 d3 d4 d5 d6 hw ha hb ?_
  dsimp only
  refine je [(24, none), (25, none)] 7 (rl [26, 7]) (by kernel_rfl) ?_
  refine ae rfl rfl rfl rfl (fb rfl rfl) ?_
  refine ae rfl rfl rfl rfl (dj rfl rfl) ?_
  refine bq ⟨zD, ?_⟩
  refine iz [26] (by kernel_rfl) (by simp) ?_
  refine jd ?_ ?_
  ·try dsimp only [St.put]
   refine jb rfl rfl rfl rfl (iw rfl rfl rfl zG (by constructor) rfl zO ?_)
   refine je [(27, none), (28, none)] 4 (rl [29, 4]) (by kernel_rfl) ?_
   refine ae rfl rfl rfl rfl (fb rfl rfl) ?_
   refine ae rfl rfl rfl rfl (dj rfl rfl) ?_
   refine bq ⟨zD, ?_⟩
   refine iz [29] (by kernel_rfl) (by simp) ?_
   refine jd ?_ ?_
   ·try dsimp only [St.put]
    refine jb rfl rfl rfl rfl (iw rfl rfl rfl zG (by constructor) rfl zO ?_)
    refine je [(30, none), (31, none)] 1 (rl [32, 1]) (by kernel_rfl) ?_
    refine ae rfl rfl rfl rfl (fb rfl rfl) ?_
    refine ae rfl rfl rfl rfl (dj rfl rfl) ?_
    refine bq ⟨zD, ?_⟩
    refine iz [32] (by kernel_rfl) (by simp) ?_
    refine jd ?_ ?_
    ·try dsimp only [St.put]
     refine jb rfl rfl rfl rfl (iw rfl rfl rfl zG (by constructor) rfl zO ?_)
     dsimp only [St.put]
     refine ri (by kernel_rfl) ?_
     refine qr rfl (.inl rfl) zN (px zG zG zG zG fun n o q1 q2 q3 q4 h => ?_)
     have hn := hlt n o h
     (try dsimp only)
     repeat (first | exact h | rw [cm (by omega)] | rw [jk (by omega)])
    exact jc
   exact jc
  exact jc
 have hz0 := ph hym
 subst hz0
 obtain ⟨z, hz⟩ : ∃ z, z = y := ⟨_, rfl⟩
 subst hz
 have hIn : ∀ z ∈ ks, ∀ x ∈ done ++ [z], x ∈ ks := fun z hz x hx => by
  rcases List.mem_append.1 hx with hx | hx
  ·exact hI8.1 x hx
  rw [List.mem_singleton] at hx; exact hx ▸ hz
 have hIu : ∀ z, z ∉ done → (done ++ [z]).Nodup := fun z hz => List.nodup_append.2 ⟨hI8.2, by simp, fun a ha b hb => by
  rw [List.mem_singleton] at hb; subst hb; exact fun e => hz (e ▸ ha)⟩
 have hdl := k8 hp hI8.2 (fun q hq => onceM_ne.1 ((hks0 q).2 (hI8.1 q hq)))
 refine yX rfl rfl rfl rfl ?_
 refine yN ?_
 dsimp only [St.put]
 refine K50 _ ?_
 refine yS fun _ K53 => ?_
 refine ak rfl (fun _ => ?_) (fun h => by cases h)
 refine av ?_
 refine K53 _ ?_
 refine az ?_
 refine yS fun _ K54 => ?_
 refine yR ?_
 try dsimp only [St.put]
 refine du rfl (p8 (fx := nx + 1 + 1 + 1 + 1) (n := nx) rfl rfl zG trivial zG zG trivial (by assumption)) ?_
 refine yX rfl rfl rfl rfl ?_
 try dsimp only [St.put]
 refine af rfl (eh rfl ?_)
 try dsimp only [St.put]
 refine af rfl (dt rfl rfl rfl zG rfl rfl (by rfl) ?_)
 refine yN ?_
 dsimp only [St.put]
 refine K54 _ ?_
 refine eo (i := 18) rfl zG zC ?_
 dsimp only
 refine yR ?_
 refine yM rfl rfl ?_
 try dsimp only [St.put]
 refine du rfl (d9 rfl rfl rfl) ?_
 try dsimp only [St.put]
 refine af rfl (ef rfl rfl rfl (by decide) (by decide) zR (by decide) ?_)
 try dsimp only [St.put]
 refine af rfl (ki (xs := bf p.text x ++ done) [z] rfl rfl zG rfl rfl rfl rfl zA zA (fun v3 => ?_))
 refine yA rfl rfl ?_
 refine yN ?_
 dsimp only [St.put]
 simp only [List.append_assoc]
 exact ⟨(done ++ [z], wi + 1, v3, wv), ql hyk hyd, ⟨hIn z hyk, hIu z hyd⟩, ⟨⟨rfl, rfl⟩, zF, zB, zN, zX⟩⟩
end Go.Proofs.YtgffhbbcpgdjjaaDoor
namespace Go.AB
open Go Go.RowKit
open Go.AB.Enc (cells)
theorem uc7 {E : Env} {w : World} {G : Nat → Option GObj} {nx : Nat} (hg : SimG E w G nx) {n ver wv len sz : Nat} {tt : TypeId} {cs : List C} {v : Value} (hG : G n = some (.arr ver wv tt sz len cs)) (h : R E w (.own n ver len) v) : ∃ ao c news, v = .slice ao len c ∧ news.length = len * sz ∧ (len = 0 ∨ ∃ a, ao = some a ∧ ∀ (j : Nat) u, news[j]? = some u → w.cell? (a.add j) = some u) ∧ Rs E w cs news ∧ (∀ c ∈ cs, c.one = true) ∧ ∀ u ∈ news, u.oneCell' = true := by
 obtain ⟨val, us, hT, how, hone, hrs, _, _⟩ := hg.obj n _ hG
 obtain ⟨rfl, _, a, cap, rfl, _, _⟩ := qb h hT how
 refine ⟨a, cap, us, rfl, how.1, ?_, hrs, hone, hrs.oneCell hone⟩
 rcases how.2 with ⟨_, h1⟩ | ⟨g, cap', cur, e, _⟩
 ·exact .inl h1
 ·cases e
  refine .inr ⟨_, rfl, fun j u hu => ?_⟩
  rw [pc, Nat.zero_add, nh how rfl (by rw [← how.1]; exact (List.getElem?_eq_some_iff.1 hu).1)]
  exact hu
section
variable {P : Program} {o : Oper} {st : St} {K : St → Prop}
/-- An own slice in which something is, is not nil. -/
theorem uh6 {t t' e : TypeId} [Elt P t e] {x : Operand} {n ver wv len sz : Nat} {tt : TypeId} {cs : List C} (hlen : len ≠ 0) (ho : o.op = .binOp .eql t x (.const (.slice none 0 0)) t') (hx : evC st x = .own n ver len) (hG : st.G n = some (.arr ver wv tt sz len cs)) (h : K (st.put o.dst (.v (.bool false)))) : EStep P o st K :=
 jj fun E w a hsim => by
  obtain ⟨ao, c, news, hv, _, h7, _⟩ := uc7 hsim.g hG (hx ▸ hsim.ev x)
  obtain ⟨ad, rfl, _⟩ := h7.resolve_left hlen
  have q1 := Elt.spec (P := P) (t := t) (e := e)
  refine ⟨.bool false, w, E, st.G, st.nx, .v (.bool false), ?_, Ev.refl E w, .v rfl, hsim.g, h⟩
  have hq := run_equal_slice_nil (P := P) w t e (some ad) len c q1
  have he2 : a.eval (.const (.slice none 0 0)) = .slice none 0 0 := rfl
  simp [execOp, ho, hv, he2, eqGuard, binOp, hq]
/-- append of an own slice to one without room: a copy, owned. -/
theorem uic {α : Type} [Enc α] {t e : TypeId} {bytes : Nat} [AppT P t e (Enc.n α) bytes] {s x : Operand} {tok : Tok} {xn xv xw xl : Nat} {tt : TypeId} {cs : List C} (ys : List α) (ho : o.op = .call { callee := .builtin .append, args := #[s, x], argTypes := #[t, t] }) (hs : evC st s = .list [] tok) (htok : tok = .zero ∨ tok = .nil) (hx : evC st x = .own xn xv xl) (hG : st.G xn = some (.arr xv xw tt (Enc.n α) xl cs)) (hxl : xl = ys.length) (hy : cs = ci ys) (hne : ys ≠ []) (hn : 1 ≤ Enc.n α) (hb : ys.length * bytes ≤ 140737488355328) (hm : ys.length ≤ 9223372036854775807)
  (h : K (St.put { st with G := ai st.G st.nx (.arr 0 0 e (Enc.n α) ys.length (ci ys)), nx := st.nx + 1 } o.dst (.own st.nx 0 ys.length))) : EStep P o st K :=
 jj fun E w a hsim => by
  subst hy; subst hxl
  obtain ⟨ht, i, z, hie, hz, h1, h2, h3⟩ := AppT.spec (P := P) (t := t) (e := e) (sz := Enc.n α) (bytes := bytes)
  obtain ⟨sa, cap, _, _, e1, _, _, _, _, _, _, _, z1, z2, _⟩ := (hs ▸ hsim.ev s).list_inv
  have hcap : cap = 0 := by
   rcases htok with h | h
   ·exact z2 h
   ·exact (z1 h).2
  subst hcap
  obtain ⟨ao, c, news, e2, hl, hnews, hr, hone, h1c⟩ := uc7 hsim.g hG (hx ▸ hsim.ev x)
  have hy0 : ys.length ≠ 0 := fun e => hne (List.eq_nil_of_length_eq_zero e)
  obtain ⟨ad, rfl, hcells⟩ := hnews.resolve_left hy0
  have hl2 : news.length = ys.length * i.size := by rw [hl, h1]
  have key : ∃ nc, (Builtin.append_ #[t, t] o.type #[.slice sa 0 0, .slice (some ad) ys.length c]).run P w = .ok (.slice (some ⟨w.heap.size, 0, none⟩) ys.length nc) (w.drew.alloc (.cells (news.toArray ++ Builtin.zeroCells z.cells (nc - ys.length)) e)) ∧ ys.length ≤ nc ∧ nc ≤ maxLen := by
   refine ⟨grownCap w (0 + ys.length) 0 e, ?_, ?_, ?_⟩
   ·cases sa with
    | none =>
     have := run_append_nil (P := P) w t o.type e i z ht hie hz ad ys.length c news hl2 hcells (by omega) (by omega) (by rw [h2]; omega)
     simpa using this
    | some a0 =>
     have := run_append_grow (P := P) w t o.type e i z ht hie hz a0 0 0 [] (by simp) (by simp) ad ys.length c news hl2 hcells (by omega) (by omega) (growslice_fits (by omega) (by rw [h2]; simpa using hb))
     simpa using this
   ·have := grownCap_ge w (0 + ys.length) 0 e; omega
   ·exact grownCap_le_maxLen w (0 + ys.length) 0 e (by unfold maxLen; omega)
  obtain ⟨nc, hrun, hnc, hnm⟩ := key
  obtain ⟨ob, hob⟩ : ∃ ob, ob = Obj.cells (news.toArray ++ Builtin.zeroCells z.cells (nc - ys.length)) e := ⟨_, rfl⟩
  rw [← hob] at hrun
  have hev := Ev.laid hsim.g (o := ob) 0 (.inr rfl)
  have hg := SimG.laid hsim.g (o := ob) 0 (.inr rfl)
  have hnew : (w.drew.alloc ob).heap[w.heap.size]? = some ob := l7 w.drew ob
  have hsz : (w.drew.alloc ob).heap.size = w.heap.size + 1 := by simp
  have hold : ∀ n tt b, (E.lay w.heap.size 0).T n = some tt → blk tt.2.2 = some b → b < w.heap.size := fun n tt b h5 h6 => (hsim.g.tb n _ _ _ b h5 h6).2
  have hnx := hsim.g.nx
  have hfr : ∀ b o', blk (.slice (some ⟨w.heap.size, 0, none⟩) ys.length nc) = some b → w.heap[b]? = some o' → False := fun b o' hbk ho' => by
   simp only [blk, Option.some.injEq] at hbk
   subst hbk
   have := (Array.getElem?_eq_some_iff.1 ho').1
   omega
  have hev2 := hev.thenName (.slice (some ⟨w.heap.size, 0, none⟩) ys.length nc) hfr
  have hg2 := SimG.name hg (.slice (some ⟨w.heap.size, 0, none⟩) ys.length nc) (.arr 0 0 e (Enc.n α) ys.length (ci ys)) (fun b hbk => by
   simp only [blk, Option.some.injEq] at hbk
   subst hbk
   exact ⟨hsim.g.base, by rw [hsz]; omega, fun n tt h5 h6 => absurd (hold n tt _ h5 h6) (by omega)⟩) (by
   refine ⟨.slice (some ⟨w.heap.size, 0, none⟩) ys.length nc, news, ?_, ⟨hl, .inr ⟨w.heap.size, nc, _, rfl, hsim.g.base, hnew.trans (by rw [hob]), hnc, hnm, ?_, ?_⟩⟩, fun c hc => ?_, hr.ev hev2, fun b hbk => ?_, hn⟩
   ·simp [Env.name, Env.lay, hnx]
   ·simp only [Array.size_append, List.size_toArray, size_zeroCells, hl]
    rw [h3, ← Nat.add_mul]
    congr 1
    omega
   ·simp only [Array.toList_append]
    rw [List.take_append_of_le_length (by simp [hl]), List.take_of_length_le (by simp [hl])]
   ·exact hone c hc
   ·simp only [blk, Option.some.injEq] at hbk
    subst hbk
    simp [Env.name, Env.lay])
  refine ⟨.slice (some ⟨w.heap.size, 0, none⟩) ys.length nc, w.drew.alloc ob, _, _, _, .own st.nx 0 ys.length, ?_, hev2, ?_, hg2, h⟩
  ·simp only [execOp, ho, resolve, invoke, builtin, Sem.run_bind, Sem.run_pure, Result.andThen_ok, List.map_toArray, List.map_cons, List.map_nil, e1, e2]
   simp only [List.length_nil]
   rw [hrun]; rfl
  ·refine R.own (by simp [Env.name, Env.lay]; omega) hnc hnm fun ver wv val htt => ?_
   simp only [Env.name, Env.lay, hnx, if_true, Option.some.injEq, Prod.mk.injEq] at htt
   obtain ⟨rfl, rfl, rfl⟩ := htt
   exact ⟨Nat.le_refl _, fun _ => ⟨_, Nat.le_refl _, rfl⟩⟩
end
end Go.AB
