/-
  What the walks through the program rest on: values, states, steps, calls (EgComp, FaNear, FbWords, AbFull, Lay, EhOrd, FcNear, FdNear, KzWords, GsNumber, KwWords, LaRef, PaFlow, PbData, PcWorst, PdPlain, PeSets, PfPlain, PgSides, PhApart, PiWhy, PjWhy, PsExamples, PpAdd, PlTruth, PqRest, AbTwin, AbCut, RaStd, OpenE, AbRem, AbBits, QaRef, QbRef, QcRef, RbSides, QdRef, QeRef, KxBefore, QfRef, QgRef, QhRef, QiRef, QjRef).
-/
import Derived.Test.YtgffhbbcpgdjjaaDoorPartB
import Derived.Test.YtgffhbbcpgdjjaaDoorPartA
import Derived.Laws.Cover3
import Derived.Shelf.SlSortCmp.NoneTotal
import Derived.Test.YtgffhbbcpgdjjaaDoorProg
import Derived.ChangeKeysEq
import Derived.Lib.Hide
import Derived.Shelf.SlicesE.DeleteFunc
import Derived.Deep.Slices
import Derived.Lib.SmallJoins
import Derived.Carry
import Derived.ProofKit
import Derived.OpenShut
namespace Go.AB
open Go Go.RowKit
open Go.AB.Enc (cells)
def ir (a b : Int) : Int := bif decide (a < b) then -1 else bif decide (b < a) then 1 else 0
def fl : List Int → List Int → Int
 | [], [] => 0
 | [], _ :: _ => -1
 | _ :: _, [] => 1
 | x :: a, y :: b => bif decide (ir x y = 0) then fl a b else ir x y
theorem ulm {a b : Int} : ir a b < 0 ↔ a < b := by
 unfold ir
 by_cases h : a < b
 ·simp [h]
 by_cases h2 : b < a <;> simp [h, h2]
theorem cmpI_zero {a b : Int} : ir a b = 0 ↔ a = b := by
 unfold ir
 by_cases h : a < b
 ·simp [h]; omega
 by_cases h2 : b < a <;> simp [h, h2] <;> omega
/-- words of the same length, one behind the other -/
def ltW : List Int → List Int → Prop
 | x :: a, y :: b => x < y ∨ x = y ∧ ltW a b
 | _, _ => False
theorem ny : ∀ {a b : List Int}, a.length = b.length → (fl a b < 0 ↔ ltW a b)
 | [], [], _ => by simp [fl, ltW]
 | x :: a, y :: b, h => by
  simp only [fl, ltW]
  by_cases h0 : ir x y = 0
  ·have := cmpI_zero.1 h0
   subst this
   rw [decide_eq_true h0, cond_true, ny (by simpa using h)]
   simp
  have := mt cmpI_zero.2 h0
  rw [decide_eq_false h0, cond_false, ulm]
  constructor
  ·exact .inl
  rintro (h1 | ⟨h1, _⟩)
  ·exact h1
  exact absurd h1 this
end Go.AB
namespace Go.Proofs.YtgffhbbcpgdjjaaDoor
set_option maxRecDepth 10000
open Go.RowKit Go.AB
open Go.AB.Enc (cells)
theorem uc1 (x : Int) : Pure Tryd.prog 106 [.v (.int .i64 x)] (.v (.bool false)) := by
 refine cz Tryd.func106 rfl (fun m => .v) fun G nx => ?_
 simp only [Tryd.ntmps106, List.length_cons, List.length_nil, Nat.reduceAdd, Nat.reduceSub]
 refine ci fun hlt => ?_
 dsimp only at hlt
 refine yS fun _ K1 => ?_
 refine yR ?_
 refine yA rfl rfl ?_
 refine yN ?_
 dsimp only [St.put]
 refine K1 _ ?_
 refine yS fun _ K2 => ?_
 refine yR ?_
 refine yM rfl rfl ?_
 refine yM rfl rfl ?_
 refine aa rfl (i0 rfl rfl rfl) ?_
 refine yA rfl rfl ?_
 refine yN ?_
 dsimp only [St.put]
 refine K2 _ ?_
 refine aw ?_
 refine bg rfl (by constructor) zN zS ?_
 exact vb (by simp)
theorem wg (x y : Int) : Pure Tryd.prog 90 [.v (.int .i64 x), .v (.int .i64 y)] (.v (.int .i64 (ir x y))) := by
 refine cz Tryd.func90 rfl (fun m => .v) fun G nx => ?_
 simp only [Tryd.ntmps90, List.length_cons, List.length_nil, Nat.reduceAdd, Nat.reduceSub]
 refine ci fun hlt => ?_
 dsimp only at hlt
 refine yS fun _ K1 => ?_
 refine yR ?_
 refine yA rfl rfl ?_
 refine yN ?_
 dsimp only [St.put]
 refine K1 _ ?_
 refine yS fun _ K2 => ?_
 refine yR ?_
 refine yM rfl rfl ?_
 try dsimp only [St.put]
 refine aj rfl (bq rfl rfl rfl (uc1 _) ?_)
 refine yA rfl rfl ?_
 refine yN ?_
 dsimp only [St.put]
 refine K2 _ ?_
 refine yS fun _ K3 => ?_
 refine yR ?_
 refine yM rfl rfl ?_
 try dsimp only [St.put]
 refine aj rfl (bq rfl rfl rfl (uc1 _) ?_)
 refine yA rfl rfl ?_
 refine yN ?_
 dsimp only [St.put]
 refine K3 _ ?_
 refine yS fun _ K4 => ?_
 refine yS fun _ K5 => ?_
 refine yR ?_
 refine aa rfl (ye (c := false) (cr rfl (by constructor)) (by rfl)) ?_
 refine yN ?_
 dsimp only [St.put]
 refine K5 _ ?_
 refine ar rfl (fun h => by cases h) (fun _ => ?_)
 refine ax ?_
 refine K4 _ ?_
 refine yS fun _ K6 => ?_
 refine yS fun _ K7 => ?_
 refine yR ?_
 refine aa rfl (ye (c := false) (cr rfl (by constructor)) (by rfl)) ?_
 refine yN ?_
 dsimp only [St.put]
 refine K7 _ ?_
 refine ar rfl (fun h => by cases h) (fun _ => ?_)
 refine ax ?_
 refine K6 _ ?_
 refine yS fun _ K8 => ?_
 refine yS fun _ K9 => ?_
 refine yR ?_
 refine yM rfl rfl ?_
 refine yM rfl rfl ?_
 refine aa rfl (cj rfl rfl rfl) ?_
 refine yN ?_
 dsimp only [St.put]
 refine K9 _ ?_
 refine ar rfl (fun hc => ?_) (fun hc => ?_)
 ·have h1 := of_decide_eq_true hc
  refine yS fun _ K10 => ?_
  refine yR ?_
  refine yA rfl rfl ?_
  refine yN ?_
  dsimp only [St.put]
  refine K10 _ ?_
  refine aw ?_
  refine bg rfl (by constructor) zN zS ?_
  exact vi (by simp [ir, h1])
 have h1 := of_decide_eq_false hc
 refine ax ?_
 refine K8 _ ?_
 refine yS fun _ K11 => ?_
 refine yS fun _ K12 => ?_
 refine yR ?_
 refine yM rfl rfl ?_
 refine yM rfl rfl ?_
 refine aa rfl (iu rfl rfl rfl) ?_
 refine yN ?_
 dsimp only [St.put]
 refine K12 _ ?_
 refine ar rfl (fun hc => ?_) (fun hc => ?_)
 ·have h2 := of_decide_eq_true hc
  refine yS fun _ K13 => ?_
  refine yR ?_
  refine yA rfl rfl ?_
  refine yN ?_
  dsimp only [St.put]
  refine K13 _ ?_
  refine aw ?_
  refine bg rfl (by constructor) zN zS ?_
  exact vi (by have h2' : y < x := h2; simp [ir, h1, h2'])
 have h2 := of_decide_eq_false hc
 refine ax ?_
 refine K11 _ ?_
 refine yS fun _ K14 => ?_
 refine yR ?_
 refine yA rfl rfl ?_
 refine yN ?_
 dsimp only [St.put]
 refine K14 _ ?_
 refine aw ?_
 refine bg rfl (by constructor) zN zS ?_
 exact vi (by have h2' : ¬ y < x := h2; simp [ir, h1, h2'])
theorem ud6 {a b : List Int} {k : Nat} {x y : Int} (hx : a[k]? = some x) (hy : b[k]? = some y) : fl (a.drop k) (b.drop k) = bif decide (ir x y = 0) then fl (a.drop (k + 1)) (b.drop (k + 1)) else ir x y := by
 obtain ⟨h1, h2⟩ := List.getElem?_eq_some_iff.1 hx
 obtain ⟨h3, h4⟩ := List.getElem?_eq_some_iff.1 hy
 rw [List.drop_eq_getElem_cons h1, List.drop_eq_getElem_cons h3, h2, h4]; rfl
theorem ull (a b : List Int) (ha : a.length ≤ 1000) (hb : b.length ≤ 1000) : Pure Tryd.prog 82 [lst a, lst b] (.v (.int .i64 (fl a b))) := by
 refine cz Tryd.func82 rfl (fun m => .v) fun G nx => ?_
 simp only [Tryd.ntmps82, List.length_cons, List.length_nil, Nat.reduceAdd, Nat.reduceSub]
 refine ci fun hlt => ?_
 dsimp only at hlt
 refine yS fun _ K1 => ?_
 refine yR ?_
 refine yA rfl rfl ?_
 refine yN ?_
 dsimp only [St.put]
 refine K1 _ ?_
 refine yS fun _ K2 => ?_
 refine yS fun _ K3 => ?_
 refine yR ?_
 refine yM rfl rfl ?_
 refine aa rfl (ba rfl rfl (List.length_map _)) ?_
 refine yM rfl rfl ?_
 refine yN ?_
 dsimp only [St.put]
 refine K3 _ ?_
 refine az ?_
 refine ck 12 ?_
 refine zQ ?_
 refine c6 (G) zX ?_
 dsimp only
 refine c5 (X := Nat) (fun k => k ≤ a.length ∧ k ≤ b.length ∧ fl a b = fl (a.drop k) (b.drop k)) (fun k => a.length - k) (fun k => [(5, .any), (6, .any), (7, .any), (8, .any), (11, .v (.int .i64 (k : Int)))]) (fun k G' => G') 0 rfl ?_ ?_ (fun _ _ h => h) ?_ ?_ ?_
 ·exact ⟨Nat.zero_le _, Nat.zero_le _, rfl⟩
 ·exact zF
 ·rintro k hI
  exact zL
 ·exact fun _ _ _ _ h => .inl h
 rintro k hI
 dsimp only at hI ⊢
 refine yS fun _ K4 => ?_
 refine yR ?_
 refine aa rfl (cj rfl rfl rfl) ?_
 refine yN ?_
 dsimp only [St.put]
 refine K4 _ ?_
 refine yS fun _ K5 => ?_
 refine ar rfl (fun hc => ?_) (fun hc => ?_)
 ·replace hc := of_decide_eq_true hc
  obtain ⟨x, hx⟩ : ∃ x, a[k]? = some x := da (by omega)
  refine ax ?_
  refine K5 _ ?_
  refine yS fun _ K6 => ?_
  refine az ?_
  refine yS fun _ K7 => ?_
  refine yR ?_
  refine yM rfl rfl ?_
  refine aa rfl (bn rfl rfl rfl rfl (bp (by assumption)) (Enc.len _)) ?_
  refine yL rfl rfl rfl ?_
  refine yA rfl rfl ?_
  refine yA rfl rfl ?_
  refine yN ?_
  dsimp only [St.put]
  refine K7 _ ?_
  refine yS fun _ K8 => ?_
  refine yS fun _ K9 => ?_
  refine yR ?_
  refine yM rfl rfl ?_
  refine yM rfl rfl ?_
  refine aa rfl (ba rfl rfl (List.length_map _)) ?_
  refine aa rfl (lu rfl rfl rfl) ?_
  refine yN ?_
  dsimp only [St.put]
  refine K9 _ ?_
  refine ar rfl (fun hc => ?_) (fun hc => ?_)
  ·replace hc := of_decide_eq_true hc
   refine yS fun _ K10 => ?_
   refine yR ?_
   refine yA rfl rfl ?_
   refine yN ?_
   dsimp only [St.put]
   refine K10 _ ?_
   refine aw ?_
   refine bg rfl (by constructor) zN zS ?_
   exact vi (by
    rw [hI.2.2, List.drop_of_length_le (show b.length ≤ k by omega)]
    obtain ⟨h1, h2⟩ := List.getElem?_eq_some_iff.1 hx
    rw [List.drop_eq_getElem_cons h1]; rfl)
  replace hc := of_decide_eq_false hc
  obtain ⟨y, hy⟩ : ∃ x, b[k]? = some x := da (by omega)
  refine ax ?_
  refine K8 _ ?_
  refine yS fun _ K11 => ?_
  refine yR ?_
  refine yM rfl rfl ?_
  refine yM rfl rfl ?_
  refine aa rfl (bn rfl rfl rfl rfl (bp (by assumption)) (Enc.len _)) ?_
  refine yL rfl rfl rfl ?_
  refine yA rfl rfl ?_
  refine yN ?_
  dsimp only [St.put]
  refine K11 _ ?_
  refine yS fun _ K12 => ?_
  refine yR ?_
  refine yM rfl rfl ?_
  refine yM rfl rfl ?_
  try dsimp only [St.put]
  refine aj rfl (bq rfl rfl rfl (wg x y) ?_)
  refine yA rfl rfl ?_
  refine yN ?_
  dsimp only [St.put]
  refine K12 _ ?_
  refine yS fun _ K13 => ?_
  refine yR ?_
  refine yM rfl rfl ?_
  refine aa rfl (i0 rfl rfl rfl) ?_
  refine yN ?_
  dsimp only [St.put]
  refine K13 _ ?_
  refine ar rfl (fun hc => ?_) (fun hc => ?_)
  ·have h1 : ir x y ≠ 0 := ka hc
   have hst := ud6 hx hy
   rw [decide_eq_false h1] at hst
   refine yS fun _ K14 => ?_
   refine yR ?_
   refine yM rfl rfl ?_
   refine yA rfl rfl ?_
   refine yN ?_
   dsimp only [St.put]
   refine K14 _ ?_
   refine aw ?_
   refine bg rfl (by constructor) zN zS ?_
   exact vi (hI.2.2.trans hst).symm
  have h1 : ir x y = 0 := jd hc
  have hst := ud6 hx hy
  rw [decide_eq_true h1] at hst
  refine ax ?_
  refine K6 _ ?_
  refine yR ?_
  refine aa rfl (bu rfl rfl rfl (by omega)) ?_
  refine yM rfl rfl ?_
  refine yN ?_
  dsimp only [St.put]
  exact ⟨k + 1, by omega, ⟨by omega, by omega, hI.2.2.trans hst⟩, ⟨⟨rfl, rfl⟩, zF, zB, zN, zX⟩⟩
 replace hc := of_decide_eq_false hc
 have hdr := hI.2.2
 rw [List.drop_of_length_le (show a.length ≤ k by omega)] at hdr
 refine cw ?_
 refine K2 _ ?_
 refine yS fun _ K15 => ?_
 refine yS fun _ K16 => ?_
 refine yR ?_
 refine yM rfl rfl ?_
 refine aa rfl (ba rfl rfl (List.length_map _)) ?_
 refine yM rfl rfl ?_
 refine aa rfl (ba rfl rfl (List.length_map _)) ?_
 refine aa rfl (cj rfl rfl rfl) ?_
 refine yN ?_
 dsimp only [St.put]
 refine K16 _ ?_
 refine ar rfl (fun hc => ?_) (fun hc => ?_)
 ·replace hc := of_decide_eq_true hc
  refine yS fun _ K17 => ?_
  refine yR ?_
  refine yA rfl rfl ?_
  refine yN ?_
  dsimp only [St.put]
  refine K17 _ ?_
  refine aw ?_
  refine bg rfl (by constructor) zN zS ?_
  exact vi (by
   rw [hdr]
   cases hb : b.drop k with
   | nil => have := congrArg List.length hb; simp at this; omega
   | cons z l => rfl)
 replace hc := of_decide_eq_false hc
 refine ax ?_
 refine K15 _ ?_
 refine yS fun _ K18 => ?_
 refine yR ?_
 refine yA rfl rfl ?_
 refine yN ?_
 dsimp only [St.put]
 refine K18 _ ?_
 refine aw ?_
 refine bg rfl (by constructor) zN zS ?_
 exact vi (by rw [hdr, List.drop_of_length_le (show b.length ≤ k by omega)]; rfl)
end Go.Proofs.YtgffhbbcpgdjjaaDoor
namespace Go.AB
open Go Go.RowKit
open Go.AB.Enc (cells)
open Go.PB (ay ak PlaceD bi bk bj)
/-- so many words of a line -/
def sw (p : L2) (k : Nat) : List PlaceD := (List.range k).map fun (i : Nat) => ⟨p.1, p.2, (i : Int)⟩
theorem uj4 (p : L2) (k : Nat) : (sw p k).length = k := by simp [sw]
def nh (t : ak) (f : L2 → Option L2) (p : L2) : List PlaceD := bif (f p).isSome then sw p ((g9 t p).getD []).length else []
def ox (t : ak) (f : L2 → Option L2) (l : List L2) : List PlaceD := (l.map (nh t f)).flatten
def m7 (t : ak) (f : L2 → Option L2) : List PlaceD := ox t f (om t)
theorem uj1 {t : ak} (ht : dv t = true) (f : L2 → Option L2) (p : L2) : (nh t f p).length ≤ 10 := by
 unfold nh
 cases (f p).isSome
 ·exact Nat.zero_le _
 ·rw [cond_true, uj4]
  cases h : g9 t p with
  | none => exact Nat.zero_le _
  | some l => have := t8 ht h; simp only [Option.getD_some]; omega
theorem ufp {t : ak} (ht : dv t = true) (f : L2 → Option L2) (l : List L2) : (ox t f l).length ≤ 10 * l.length := by
 induction l with
 | nil => exact Nat.zero_le _
 | cons p l ih =>
  have h1 := uj1 ht f p
  have : (ox t f (p :: l)).length = (nh t f p).length + (ox t f l).length := by simp [ox]
  rw [this, List.length_cons]
  omega
theorem ujr {t : ak} {f : L2 → Option L2} {q : PlaceD} : q ∈ m7 t f ↔ f9 t q = true ∧ (f (q.ch, q.ln)).isSome = true := by
 unfold m7 ox
 rw [List.mem_flatten]
 constructor
 ·rintro ⟨l, hl, hq⟩
  obtain ⟨p, hp, rfl⟩ := List.mem_map.1 hl
  obtain ⟨ws, hw⟩ := mem_lines.1 hp
  unfold nh at hq
  cases hf : (f p).isSome with
  | false => rw [hf] at hq; simp at hq
  | true =>
   rw [hf, cond_true, hw, Option.getD_some] at hq
   obtain ⟨i, hi, rfl⟩ := List.mem_map.1 hq
   rw [List.mem_range] at hi
   exact ⟨placeB_true.2 ⟨ws, hw, by dsimp only; omega, by dsimp only; omega⟩, hf⟩
 ·rintro ⟨h1, h2⟩
  obtain ⟨ws, hw, h3, h4⟩ := placeB_true.1 h1
  refine ⟨_, List.mem_map.2 ⟨(q.ch, q.ln), mem_lines.2 ⟨ws, hw⟩, rfl⟩, ?_⟩
  unfold nh
  rw [h2, cond_true, hw, Option.getD_some]
  refine List.mem_map.2 ⟨q.wd.toNat, List.mem_range.2 (by omega), ?_⟩
  have : ((q.wd.toNat : Nat) : Int) = q.wd := by omega
  rw [this]
/-- the numbers of a place -/
def dl (q : PlaceD) : List Int := [q.ch, q.ln, q.wd]
theorem uki {a b : PlaceD} (h : dl a = dl b) : a = b := by
 obtain ⟨a1, a2, a3⟩ := a
 obtain ⟨b1, b2, b3⟩ := b
 simp only [dl, List.cons.injEq, and_true] at h
 obtain ⟨rfl, rfl, rfl⟩ := h
 rfl
theorem pd : ∀ a : List Int, ¬ ltW a a
 | [] => by simp [ltW]
 | x :: a => by simp only [ltW]; rintro (h | ⟨_, h⟩); omega; exact pd a h
theorem qv : ∀ {a b c : List Int}, ltW a b → ltW b c → ltW a c
 | [], _, _, h, _ => by simp [ltW] at h
 | _ :: _, [], _, h, _ => by simp [ltW] at h
 | _ :: _, _ :: _, [], _, k => by simp [ltW] at k
 | x :: a, y :: b, z :: c, h, k => by
  simp only [ltW] at h k ⊢
  rcases h with h | ⟨h1, h2⟩
  ·rcases k with k | ⟨k1, _⟩
   ·exact .inl (by omega)
   ·exact .inl (by omega)
  ·rcases k with k | ⟨k1, k2⟩
   ·exact .inl (by omega)
   ·exact .inr ⟨by omega, qv h2 k2⟩
theorem yj : ∀ {a b : List Int}, a.length = b.length → ¬ ltW a b → ¬ ltW b a → a = b
 | [], [], _, _, _ => rfl
 | x :: a, y :: b, hl, h, k => by
  simp only [ltW, not_or, not_and] at h k
  have hxy : x = y := by omega
  subst hxy
  rw [yj (by simpa using hl) (h.2 rfl) (k.2 rfl)]
/-! ### What is next to something -/
end Go.AB
namespace Go.AB
open Go Go.RowKit
open Go.AB.Enc (cells)
open Go.PB (ay ak PlaceD bi bk bj)
theorem uk1 {α : Type} {q : α → Bool} {l : List α} {k : Nat} {x : α} (hx : l[k]? = some x) (h : ∀ y ∈ l.take k, q y = false) (hq : q x = true) : l.findIdx q = k := by
 obtain ⟨h1, h2⟩ := List.getElem?_eq_some_iff.1 hx
 rw [List.findIdx_eq h1]
 exact ⟨by rw [h2]; exact hq, fun j hj => h _ (List.mem_of_getElem? (i := j) (by rw [List.getElem?_take_of_lt hj, List.getElem?_eq_getElem (by omega)]))⟩
end Go.AB
namespace Go.Proofs.YtgffhbbcpgdjjaaDoor
set_option maxRecDepth 10000
open Go.RowKit Go.AB
open Go.AB.Enc (cells)
open Go.PB (ay ak PlaceD bi bk bj)
/-! ### What is beside something -/
end Go.Proofs.YtgffhbbcpgdjjaaDoor
namespace Go.AB
open Go Go.RowKit
open Go.AB.Enc (cells)
section
variable {P : Program} {o : Oper} {st : St} {K : St → Prop}
/-- Whether a slice is nil: it is not, if something is in it. -/
theorem ud0 {t t' e : TypeId} [Elt P t e] {x : Operand} {rows : List (List C)} {tok : Tok} (ho : o.op = .binOp .eql t x (.const (.slice none 0 0)) t') (hx : evC st x = .list rows tok) (h : ∀ b : Bool, (rows ≠ [] → b = false) → K (st.put o.dst (.v (.bool b)))) : EStep P o st K :=
 ki fun E w a hsim => by
  have hr := hx ▸ hsim.ev x
  obtain ⟨ad, cap, _, _, hv, h1, _, _, _, _, _, h7, _⟩ := R.list_inv hr
  have q1 := Elt.spec (P := P) (t := t) (e := e)
  refine ⟨.bool ad.isNone, w, E, st.G, st.nx, .v (.bool ad.isNone), ?_, Ev.refl E w, .v rfl, hsim.g, h _ fun hne => ?_⟩
  ·have hq := run_equal_slice_nil (P := P) w t e ad rows.length cap q1
   have he2 : a.eval (.const (.slice none 0 0)) = .slice none 0 0 := rfl
   simp [execOp, ho, hv, he2, eqGuard, binOp, hq]
  ·obtain ⟨b, off, rfl, _⟩ := h7.resolve_left hne
   rfl
end
section
variable {ρ : Option Nat} {P : Program} {st : St} {Q : Exit → St → Prop}
end
end Go.AB
namespace Go.Proofs.YtgffhbbcpgdjjaaDoor
open Go.Shelf
def srt_Place_ren : Go.Shelf.Ren := ⟨fun | 6 => 92 | 15 => 108 | 14 => 107 | 28 => 120 | 29 => 121 | 20 => 112 | 21 => 113 | 22 => 114 | 23 => 115 | 24 => 116 | 25 => 117 | 26 => 118 | 27 => 119 | 46 => 122 | 47 => 123 | 48 => 124 | 49 => 125 | 50 => 126 | 57 => 127 | n => n, fun | 22 => 36 | 24 => 54 | 25 => 130 | 3 => 3 | 39 => 161 | 0 => 0 | 53 => 174 | 55 => 176 | 4 => 4 | 46 => 167 | 45 => 166 | 50 => 171 | 5 => 5 | 9 => 9 | 66 => 177 | 70 => 181 | 76 => 183 | 77 => 34 | n => n, fun | n => n⟩
theorem uaq : Go.Proofs.SlLaysF0.n6 Tryd.prog srt_Place_ren := {
 mixed := by kernel_rfl
 f6 := ⟨Tryd.f92.name, by decide, Tryd.func92.trans (congrArg some (by kernel_rfl))⟩
 f14 := ⟨Tryd.f107.name, by decide, Tryd.func107.trans (congrArg some (by kernel_rfl))⟩
 f15 := Tryd.func108.trans (congrArg some (by kernel_rfl))
 f20 := ⟨Tryd.f112.name, by decide, Tryd.func112.trans (congrArg some (by kernel_rfl))⟩
 f21 := ⟨Tryd.f113.name, by decide, Tryd.func113.trans (congrArg some (by kernel_rfl))⟩
 f22 := ⟨Tryd.f114.name, by decide, Tryd.func114.trans (congrArg some (by kernel_rfl))⟩
 f23 := ⟨Tryd.f115.name, by decide, Tryd.func115.trans (congrArg some (by kernel_rfl))⟩
 f24 := ⟨Tryd.f116.name, by decide, Tryd.func116.trans (congrArg some (by kernel_rfl))⟩
 f25 := ⟨Tryd.f117.name, by decide, Tryd.func117.trans (congrArg some (by kernel_rfl))⟩
 f26 := ⟨Tryd.f118.name, by decide, Tryd.func118.trans (congrArg some (by kernel_rfl))⟩
 f27 := ⟨Tryd.f119.name, by decide, Tryd.func119.trans (congrArg some (by kernel_rfl))⟩
 f28 := Tryd.func120.trans (congrArg some (by kernel_rfl))
 f29 := Tryd.func121.trans (congrArg some (by kernel_rfl))
 f46 := ⟨Tryd.f122.name, by decide, Tryd.func122.trans (congrArg some (by kernel_rfl))⟩
 f47 := Tryd.func123.trans (congrArg some (by kernel_rfl))
 f48 := Tryd.func124.trans (congrArg some (by kernel_rfl))
 f49 := ⟨Tryd.f125.name, by decide, Tryd.func125.trans (congrArg some (by kernel_rfl))⟩
 f50 := ⟨Tryd.f126.name, by decide, Tryd.func126.trans (congrArg some (by kernel_rfl))⟩
 f57 := ⟨Tryd.f127.name, by decide, Tryd.func127.trans (congrArg some (by kernel_rfl))⟩
 t0 := Tryd.underlying0
 a0 := Tryd.isAgg0
 z0 := Tryd.sizeOf0
 v0 := Tryd.zeroValue0
 t3 := Tryd.underlying3
 a3 := Tryd.isAgg3
 z3 := Tryd.sizeOf3
 v3 := Tryd.zeroValue3
 t4 := Tryd.underlying4
 a4 := Tryd.isAgg4
 z4 := Tryd.sizeOf4
 v4 := Tryd.zeroValue4
 t5 := Tryd.underlying5
 a5 := Tryd.isAgg5
 z5 := Tryd.sizeOf5
 v5 := Tryd.zeroValue5
 t9 := Tryd.underlying9
 a9 := Tryd.isAgg9
 z9 := Tryd.sizeOf9
 v9 := Tryd.zeroValue9
 t22 := Tryd.underlying36
 a22 := Tryd.isAgg36
 z22 := Tryd.sizeOf36
 v22 := Tryd.zeroValue36
 t25 := Tryd.underlying130
 a25 := Tryd.isAgg130
 z25 := Tryd.sizeOf130
 v25 := Tryd.zeroValue130
 t39 := Tryd.underlying161
 a39 := Tryd.isAgg161
 z39 := Tryd.sizeOf161
 v39 := Tryd.zeroValue161
 t45 := Tryd.underlying166
 a45 := Tryd.isAgg166
 z45 := Tryd.sizeOf166
 v45 := Tryd.zeroValue166
 t46 := Tryd.underlying167
 a46 := Tryd.isAgg167
 z46 := Tryd.sizeOf167
 v46 := Tryd.zeroValue167
 t50 := Tryd.underlying171
 a50 := Tryd.isAgg171
 z50 := Tryd.sizeOf171
 v50 := Tryd.zeroValue171
 t53 := Tryd.underlying174
 a53 := Tryd.isAgg174
 z53 := Tryd.sizeOf174
 v53 := Tryd.zeroValue174
 t55 := Tryd.underlying176
 a55 := Tryd.isAgg176
 z55 := Tryd.sizeOf176
 v55 := Tryd.zeroValue176
 t66 := Tryd.underlying177
 a66 := Tryd.isAgg177
 z66 := Tryd.sizeOf177
 v66 := Tryd.zeroValue177
 t70 := Tryd.underlying181
 a70 := Tryd.isAgg181
 z70 := Tryd.sizeOf181
 v70 := Tryd.zeroValue181
 t76 := Tryd.underlying183
 a76 := Tryd.isAgg183
 z76 := Tryd.sizeOf183
 v76 := Tryd.zeroValue183
 t77 := Tryd.underlying34
 a77 := Tryd.isAgg34
 z77 := Tryd.sizeOf34
 v77 := Tryd.zeroValue34 }
end Go.Proofs.YtgffhbbcpgdjjaaDoor
namespace Go.AB
open Go Go.RowKit
open Go.AB.Enc (cells)
open Go.PB (ay ak PlaceD bi bk bj)
theorem ub7 {α : Type} [DecidableEq α] : ∀ {l m : List α}, l.Nodup → (∀ x ∈ l, x ∈ m) → l.length ≤ m.length
 | [], _, _, _ => Nat.zero_le _
 | x :: l, m, hn, hs => by
  rw [List.nodup_cons] at hn
  have h1 := hs x (List.mem_cons_self ..)
  have h2 := ub7 (l := l) (m := m.erase x) hn.2 fun y hy => (List.mem_erase_of_ne fun (e : y = x) => hn.1 (e ▸ hy)).2 (hs y (List.mem_cons_of_mem _ hy))
  rw [List.length_erase_of_mem h1] at h2
  have := List.length_pos_of_mem h1
  simp only [List.length_cons]
  omega
end Go.AB
namespace Go.Proofs.YtgffhbbcpgdjjaaDoor
set_option maxRecDepth 10000
open Go.RowKit Go.AB
open Go.AB.Enc (cells)
open Go.PB (ay ak PlaceD bi bk bj)
end Go.Proofs.YtgffhbbcpgdjjaaDoor
namespace Go.AB
open Go Go.RowKit
open Go.AB.Enc (cells)
open Go.PB (ay ak PlaceD bi bk bj)
end Go.AB
namespace Go.Proofs.YtgffhbbcpgdjjaaDoor
set_option maxRecDepth 10000
open Go.RowKit Go.AB
open Go.AB.Enc (cells)
open Go.PB (ay ak PlaceD bi bk bj)
end Go.Proofs.YtgffhbbcpgdjjaaDoor
namespace Go.AB
open Go Go.RowKit
open Go.AB.Enc (cells)
open Go.PB (ay ak PlaceD bi bk bj)
theorem z6 (t : ak) (f : L2 → Option L2) : (m7 t f).Pairwise fun a b => ltW (dl a) (dl b) := by
 unfold m7 ox
 rw [List.pairwise_flatten]
 constructor
 ·intro l hl
  obtain ⟨p, _, rfl⟩ := List.mem_map.1 hl
  unfold nh
  cases (f p).isSome
  ·exact List.Pairwise.nil
  rw [cond_true]
  unfold sw
  rw [List.pairwise_map]
  refine List.Pairwise.imp (fun {a b} h => ?_) List.pairwise_lt_range
  simp only [dl, ltW]
  refine .inr ⟨trivial, .inr ⟨trivial, .inl ?_⟩⟩
  omega
 rw [List.pairwise_map]
 refine List.Pairwise.imp (fun {p q} h => ?_) (ujz t)
 intro a ha b hb
 unfold nh at ha hb
 cases hp : (f p).isSome with
 | false => rw [hp] at ha; simp at ha
 | true =>
  cases hq : (f q).isSome with
  | false => rw [hq] at hb; simp at hb
  | true =>
   rw [hp, cond_true] at ha
   rw [hq, cond_true] at hb
   obtain ⟨i, _, rfl⟩ := List.mem_map.1 ha
   obtain ⟨j, _, rfl⟩ := List.mem_map.1 hb
   simp only [dl, ltW]
   rcases h with h | ⟨h1, h2⟩
   ·exact .inl h
   exact .inr ⟨h1, .inl h2⟩
end Go.AB
namespace Go.Proofs.YtgffhbbcpgdjjaaDoor
set_option maxRecDepth 10000
open Go.RowKit Go.AB
open Go.AB.Enc (cells)
open Go.PB (ay ak PlaceD bi bk bj)
end Go.Proofs.YtgffhbbcpgdjjaaDoor
namespace Go.AB
open Go Go.RowKit
open Go.PB (ay ak PlaceD bi bk bj)
theorem ufm (t : ak) (f : L2 → Option L2) : (m7 t f).Nodup :=
 (z6 t f).imp fun {a b} h e => by subst e; exact pd _ h
end Go.AB
namespace Go.AB
open Go Go.RowKit
open Go.AB.Enc (cells)
open Go.PB (ay ak PlaceD bi bk bj)
theorem ww (t : ak) : (jo t).map (·.1) = m7 t fun _ => some (1, 1) := by
 have key : ∀ (k n : Nat) (c : ay) (l : List ByteArray), t[k]? = some c → c.lines[n]? = some l → nh t (fun _ => some (1, 1)) ((k : Int), (n : Int)) = (kb k n l).map (·.1) := fun k n c l hc hl => by
  unfold nh
  rw [w5 hc hl]
  simp only [Option.isSome_some, cond_true, Option.getD_some]
  unfold sw kb
  apply List.ext_getElem?
  intro i
  rw [List.getElem?_map, List.getElem?_map, List.getElem?_mapIdx]
  by_cases hi : i < l.length
  ·rw [List.getElem?_range hi, List.getElem?_eq_getElem hi]; rfl
  rw [List.getElem?_eq_none (by simp; omega), List.getElem?_eq_none (by omega)]; rfl
 unfold m7 ox om jo mg
 rw [List.map_flatten, qa, List.map_flatten, qa, List.flatten_flatten]
 congr 1
 rw [qa]
 apply List.ext_getElem?
 intro k
 rw [List.getElem?_mapIdx, List.getElem?_mapIdx]
 cases hc : t[k]? with
 | none => rfl
 | some c =>
  simp only [Option.map_some]
  congr 1
  rw [List.map_flatten, qa, qa]
  congr 1
  apply List.ext_getElem?
  intro n
  rw [List.getElem?_mapIdx, List.getElem?_mapIdx]
  cases hl : c.lines[n]? with
  | none => rfl
  | some l => simp only [Option.map_some]; rw [key k n c l hc hl]
def isP (p : PlaceD) (x : PW) : Bool := decide (x.1 = p)
/-- so many places are ahead of a place -/
def qo (t : ak) (p : PlaceD) : Nat := (jo t).findIdx (isP p)
theorem umm (t : ak) : ((jo t).map (·.1)).Nodup := by rw [ww]; exact ufm _ _
theorem allP_mem {t : ak} {p : PlaceD} : p ∈ (jo t).map (·.1) ↔ f9 t p = true := by
 rw [ww, ujr]; simp
theorem x9 {t : ak} {p : PlaceD} {k : Nat} {x : PW} (hx : (jo t)[k]? = some x) (hp : x.1 = p) : qo t p = k := by
 refine uk1 hx (fun y hy => ?_) (by simp [isP, hp])
 obtain ⟨j, hj⟩ := List.getElem?_of_mem hy
 rw [List.getElem?_take] at hj
 split at hj
 ·rename_i hjk
  refine decide_eq_false fun e => ?_
  exact ya hj hx hjk (f := fun z : PW => z.1) (e.trans hp.symm) (umm t)
 cases hj
theorem u6 {t : ak} {p : PlaceD} (hp : f9 t p = true) : (m7 t fun _ => some (1, 1))[qo t p]? = some p := by
 obtain ⟨x, hx, h⟩ := List.mem_map.1 (allP_mem.2 hp)
 obtain ⟨k, hk⟩ := List.getElem?_of_mem hx
 rw [x9 hk h, ← ww, List.getElem?_map, hk]
 simp [h]
theorem ujb {t : ak} {p q : PlaceD} (hp : f9 t p = true) (hq : f9 t q = true) : qo t p < qo t q ↔ ltW (dl p) (dl q) := by
 obtain ⟨a1, a2⟩ := List.getElem?_eq_some_iff.1 (u6 hp)
 obtain ⟨b1, b2⟩ := List.getElem?_eq_some_iff.1 (u6 hq)
 have hs := List.pairwise_iff_getElem.1 (z6 t fun _ => some (1, 1))
 constructor
 ·intro h
  have := hs _ _ a1 b1 h
  rwa [a2, b2] at this
 intro h
 rcases Nat.lt_trichotomy (qo t p) (qo t q) with h1 | h1 | h1
 ·exact h1
 ·have : p = q := by
   have e1 := u6 hp
   rw [h1, u6 hq] at e1
   exact (Option.some.inj e1).symm
  subst this
  exact absurd h (pd _)
 have := hs _ _ b1 a1 h1
 rw [a2, b2] at this
 exact absurd (qv h this) (pd _)
theorem ue5 {t : ak} (ht : dv t = true) : (jo t).length ≤ 600 := by
 have h1 : ((jo t).map (·.1)).length = (m7 t fun _ => some (1, 1)).length := by rw [ww]
 have h2 := ufp ht (fun _ => some (1, 1)) (om t)
 have h3 := uj0 ht
 unfold m7 at h1
 rw [List.length_map] at h1
 omega
end Go.AB
namespace Go.Proofs.YtgffhbbcpgdjjaaDoor
set_option maxRecDepth 10000
open Go.RowKit Go.AB
open Go.AB.Enc (cells)
open Go.PB (ay ak PlaceD bi bk bj)
end Go.Proofs.YtgffhbbcpgdjjaaDoor
namespace Go.AB
open Go Go.RowKit
open Go.AB.Enc (cells)
open Go.PB (ay ak PlaceD bi bk bj)
/-! ### The order of words -/
/-! ### What the functions give -/
def rz (t : ak) (p : PlaceD) : ByteArray := ((g9 t (p.ch, p.ln)).getD [])[p.wd.toNat]?.getD ByteArray.empty
theorem umk {t : ak} {x : PW} (hx : x ∈ jo t) : rz t x.1 = x.2 := by
 unfold jo at hx
 obtain ⟨l, hl, h1⟩ := List.mem_flatten.1 hx
 obtain ⟨k, hk, rfl⟩ := List.mem_mapIdx.1 hl
 unfold mg at h1
 obtain ⟨l2, hl2, h2⟩ := List.mem_flatten.1 h1
 obtain ⟨n, hn, rfl⟩ := List.mem_mapIdx.1 hl2
 unfold kb at h2
 obtain ⟨w, hw, rfl⟩ := List.mem_mapIdx.1 h2
 unfold rz
 dsimp only
 rw [w5 (List.getElem?_eq_getElem hk) (List.getElem?_eq_getElem hn)]
 simp [hw]
end Go.AB
namespace Go.AB
open Go Go.RowKit
open Go.AB.Enc (cells)
open Go.PB (ay ak PlaceD bi bk bj)
def dt (t : ak) : List PlaceD := (jo t).map (·.1)
def gy (t : ak) (k : Nat) (ls : List (List ByteArray)) (n : Nat) : List PlaceD := dt (t.take k) ++ (mg k (ls.take n)).map (·.1)
def mi (t : ak) (k : Nat) (ls : List (List ByteArray)) (n : Nat) (l : List ByteArray) (w : Nat) : List PlaceD := gy t k ls n ++ (kb k n (l.take w)).map (·.1)
theorem ue2 (t : ak) (k : Nat) (ls : List (List ByteArray)) : dt (t.take k) = gy t k ls 0 := by simp [gy, mg]
theorem ue0 (t : ak) (k : Nat) (ls : List (List ByteArray)) (n : Nat) (l : List ByteArray) : gy t k ls n = mi t k ls n l 0 := by simp [mi, kb]
theorem ue3 {t : ak} {k n : Nat} {c : ay} (hk : t[k]? = some c) (hn : c.lines.length ≤ n) : gy t k c.lines n = dt (t.take (k + 1)) := by
 unfold gy dt
 rw [List.take_of_length_le hn, ue4 hk, List.map_append]
theorem umj {t : ak} {k n w : Nat} {ls : List (List ByteArray)} {l : List ByteArray} (hn : ls[n]? = some l) (hw : l.length ≤ w) : mi t k ls n l w = gy t k ls (n + 1) := by
 unfold mi gy
 rw [List.take_of_length_le hw, ze k hn, List.map_append, List.append_assoc]
theorem umi {t : ak} {k n w : Nat} {ls : List (List ByteArray)} {l : List ByteArray} (hw : w < l.length) : mi t k ls n l w ++ [(⟨k, n, w⟩ : PlaceD)] = mi t k ls n l (w + 1) := by
 unfold mi
 rw [uj2 k n (List.getElem?_eq_getElem hw), List.map_append, List.append_assoc]; rfl
theorem n1 {t : ak} (ht : dv t = true) : (dt t).length ≤ 600 := by rw [dt, List.length_map]; exact ue5 ht
theorem ue1 {t : ak} (ht : dv t = true) {k n : Nat} {c : ay} {l : List ByteArray} (hk : t[k]? = some c) (hn : c.lines[n]? = some l) (w : Nat) : (mi t k c.lines n l w).length ≤ 600 := by
 have h1 := (ufu hk hn w).length_le
 have h2 := ue5 ht
 simp only [List.length_append] at h1
 simp only [mi, gy, dt, List.length_append, List.length_map]
 omega
theorem ubo {t : ak} {p : PlaceD} (hp : f9 t p = true) : ∃ (k n w : Nat) (c : ay) (l : List ByteArray), p = ⟨k, n, w⟩ ∧ t[k]? = some c ∧ c.lines[n]? = some l ∧ l[w]? = some (rz t p) := by
 obtain ⟨l, hw, h1, h2⟩ := placeB_true.1 hp
 obtain ⟨k, n, c, hkn, hk, hn⟩ := ry hw
 refine ⟨k, n, p.wd.toNat, c, l, ?_, hk, hn, ?_⟩
 ·have e1 : p.ch = (k : Int) := congrArg Prod.fst hkn
  have e2 : p.ln = (n : Int) := congrArg Prod.snd hkn
  obtain ⟨a, b, d⟩ := p
  dsimp only at e1 e2 h1 ⊢
  subst e1; subst e2
  rw [Int.toNat_of_nonneg h1]
 unfold rz
 rw [hw, Option.getD_some, List.getElem?_eq_getElem (by omega)]
 rfl
theorem ue6 {t : ak} {k : Nat} {x : PW} (hx : (jo t)[k]? = some x) : f9 t x.1 = true ∧ rz t x.1 = x.2 := by
 have hm := List.mem_of_getElem? hx
 exact ⟨allP_mem.1 (List.mem_map.2 ⟨x, hm, rfl⟩), umk hm⟩
theorem yh {α : Type} {l : List α} {k : Nat} {x : α} {p : α → Prop} (hx : l[k]? = some x) (hp : p x) (h : ∀ y ∈ l.take k, p y) : ∀ y ∈ l.take (k + 1), p y := fun y hy => by
 rw [List.take_add_one, hx] at hy
 simp only [Option.toList_some, List.mem_append, List.mem_singleton] at hy
 rcases hy with hy | rfl
 ·exact h y hy
 exact hp
/-! ### A word in its place -/
end Go.AB
namespace Go.Proofs.YtgffhbbcpgdjjaaDoor
set_option maxRecDepth 10000
open Go.RowKit Go.AB
open Go.AB.Enc (cells)
open Go.PB (ay ak PlaceD bi bk bj)
theorem ubb (t : ak) (ht : dv t = true) : Pure Tryd.prog 63 [fj t] (lst (dt t)) := by
 refine cz Tryd.func63 rfl (fun m => (cg _ _)) fun G nx => ?_
 simp only [Tryd.ntmps63, List.length_cons, List.length_nil, Nat.reduceAdd, Nat.reduceSub]
 refine ci fun hlt => ?_
 dsimp only at hlt
 obtain ⟨hl1, hl2, hl3⟩ := lj ht
 refine yS fun _ K1 => ?_
 refine yR ?_
 try dsimp only [St.put]
 refine yB rfl rfl rfl ?_
 refine yA rfl rfl ?_
 refine yN ?_
 dsimp only [St.put]
 refine K1 _ ?_
 refine yS fun _ K2 => ?_
 refine yR ?_
 refine yA rfl rfl ?_
 refine yN ?_
 dsimp only [St.put]
 refine K2 _ ?_
 refine pp 3 54 3 rfl (by decide) ?_
 dsimp only [List.set_cons_zero, List.set_cons_succ]
 refine yS fun _ K3 => ?_
 refine yS fun _ K4 => ?_
 refine yR ?_
 refine yA rfl rfl ?_
 refine yN ?_
 dsimp only [St.put]
 refine K4 _ ?_
 refine az ?_
 refine ck 7 ?_
 refine zQ ?_
 refine c6 (ai G nx (.tip 0 54 3)) zX ?_
 dsimp only
 refine c5 (X := Nat) (fun k => k ≤ t.length) (fun k => t.length - k) (fun k => [(3, .list ((dt (t.take k)).map cells) (.tip nx)), (4, .v (.int .i64 (k : Int))), (5, .any), (6, .any)]) (fun k G' => (ai G nx (.tip ((dt (t.take k))).length 54 3))) 0 rfl ?_ ?_ ?_ ?_ ?_ ?_
 ·exact Nat.zero_le _
 ·exact zF
 ·exact zX
 ·rintro k hI
  exact zL
 ·rintro k hI
  exact zH
 rintro k hI
 dsimp only at hI ⊢
 refine yS fun _ K5 => ?_
 refine yS fun _ K6 => ?_
 refine yR ?_
 refine yM rfl rfl ?_
 refine yF rfl rfl rfl rfl ?_
 refine yL rfl rfl rfl ?_
 refine aa rfl (ba rfl rfl (List.length_map _)) ?_
 refine aa rfl (cj rfl rfl rfl) ?_
 refine yN ?_
 dsimp only [St.put]
 refine K6 _ ?_
 refine ar rfl (fun hc => ?_) (fun hc => ?_)
 ·replace hc := of_decide_eq_true hc
  obtain ⟨c, hk⟩ : ∃ x, t[k]? = some x := da (by omega)
  have hcl := hl3 c (fq hk)
  refine ax ?_
  refine K5 _ ?_
  refine yS fun _ K7 => ?_
  refine az ?_
  refine yS fun _ K8 => ?_
  refine yR ?_
  refine yA rfl rfl ?_
  refine yN ?_
  dsimp only [St.put]
  rw [ue2 t k c.lines]
  refine K8 _ ?_
  refine az ?_
  refine ck 7 ?_
  refine zQ ?_
  refine c6 ((ai G nx (.tip ((gy t k c.lines 0)).length 54 3))) zX ?_
  dsimp only
  refine c5 (X := Nat) (fun n => n ≤ c.lines.length) (fun n => c.lines.length - n) (fun n => [(3, .list ((gy t k c.lines n).map cells) (.tip nx)), (5, .v (.int .i64 (n : Int))), (6, .any)]) (fun n G' => (ai G nx (.tip ((gy t k c.lines n)).length 54 3))) 0 rfl ?_ ?_ ?_ ?_ ?_ ?_
  ·exact Nat.zero_le _
  ·exact zF
  ·exact zX
  ·rintro n hI
   exact zL
  ·rintro n hI
   exact zH
  rintro n hJ
  dsimp only at hJ ⊢
  refine yS fun _ K9 => ?_
  refine yS fun _ K10 => ?_
  refine yR ?_
  refine yM rfl rfl ?_
  refine yF rfl rfl rfl rfl ?_
  refine yL rfl rfl rfl ?_
  refine yM rfl rfl ?_
  refine aa rfl (bn rfl rfl rfl rfl (bp (by assumption)) (Enc.len _)) ?_
  refine yF rfl rfl rfl rfl ?_
  refine yL rfl rfl rfl ?_
  refine aa rfl (ba rfl rfl (List.length_map _)) ?_
  refine aa rfl (cj rfl rfl rfl) ?_
  refine yN ?_
  dsimp only [St.put]
  refine K10 _ ?_
  refine ar rfl (fun hc => ?_) (fun hc => ?_)
  ·replace hc := of_decide_eq_true hc
   obtain ⟨l, hn⟩ : ∃ x, c.lines[n]? = some x := da (by omega)
   have hll := hcl.2.2 l (fq hn)
   refine ax ?_
   refine K9 _ ?_
   refine yS fun _ K11 => ?_
   refine az ?_
   refine yS fun _ K12 => ?_
   refine yR ?_
   refine yA rfl rfl ?_
   refine yN ?_
   dsimp only [St.put]
   rw [ue0 t k c.lines n l]
   refine K12 _ ?_
   refine az ?_
   refine ck 7 ?_
   refine zQ ?_
   refine c6 ((ai G nx (.tip ((mi t k c.lines n l 0)).length 54 3))) zX ?_
   dsimp only
   refine c5 (X := Nat) (fun w => w ≤ l.length) (fun w => l.length - w) (fun w => [(3, .list ((mi t k c.lines n l w).map cells) (.tip nx)), (6, .v (.int .i64 (w : Int)))]) (fun w G' => (ai G nx (.tip ((mi t k c.lines n l w)).length 54 3))) 0 rfl ?_ ?_ ?_ ?_ ?_ ?_
   ·exact Nat.zero_le _
   ·exact zF
   ·exact zX
   ·rintro w hI
    exact zL
   ·rintro w hI
    exact zH
   rintro w hW
   dsimp only at hW ⊢
   refine yS fun _ K13 => ?_
   refine yS fun _ K14 => ?_
   refine yR ?_
   refine yM rfl rfl ?_
   refine yF rfl rfl rfl rfl ?_
   refine yL rfl rfl rfl ?_
   refine yM rfl rfl ?_
   refine aa rfl (bn rfl rfl rfl rfl (bp (by assumption)) (Enc.len _)) ?_
   refine yF rfl rfl rfl rfl ?_
   refine yL rfl rfl rfl ?_
   refine yM rfl rfl ?_
   refine aa rfl (bn rfl rfl rfl rfl (bp (by assumption)) (Enc.len _)) ?_
   refine yL rfl rfl rfl ?_
   refine aa rfl (ba rfl rfl (List.length_map _)) ?_
   refine aa rfl (cj rfl rfl rfl) ?_
   refine yN ?_
   dsimp only [St.put]
   refine K14 _ ?_
   refine ar rfl (fun hc => ?_) (fun hc => ?_)
   ·replace hc := of_decide_eq_true hc
    have hlen := ue1 ht hk hn w
    refine ax ?_
    refine K13 _ ?_
    refine yS fun _ K15 => ?_
    refine az ?_
    refine yR ?_
    refine yM rfl rfl ?_
    refine yM rfl rfl ?_
    refine yM rfl rfl ?_
    refine yM rfl rfl ?_
    refine aa rfl (je rfl rfl) ?_
    try dsimp only [St.put]
    refine aj rfl (fh rfl rfl rfl (by decide) (by decide) zR (by decide) ?_)
    try dsimp only [St.put]
    refine aj rfl (jh ([(⟨k, n, w⟩ : PlaceD)]) rfl rfl zG zE rfl rfl zA ?_ zA)
    refine yA rfl rfl ?_
    refine yN ?_
    dsimp only [St.put]
    refine K15 _ ?_
    refine yR ?_
    refine yM rfl rfl ?_
    refine aa rfl (bu rfl rfl rfl (by omega)) ?_
    refine yA rfl rfl ?_
    refine yN ?_
    dsimp only [St.put]
    rw [umi (w := w) (by omega)]
    exact ⟨w + 1, by omega, by omega, ⟨⟨rfl, rfl⟩, zF, zB, zN, zX⟩⟩
   try replace hc := of_decide_eq_false hc
   refine cw ?_
   refine K11 _ ?_
   refine yR ?_
   refine yM rfl rfl ?_
   refine aa rfl (bu rfl rfl rfl (by omega)) ?_
   refine yA rfl rfl ?_
   refine yN ?_
   dsimp only [St.put]
   rw [umj (k := k) (w := w) hn (by omega)]
   exact ⟨n + 1, by omega, by omega, ⟨⟨rfl, rfl⟩, zF, zB, zN, zX⟩⟩
  try replace hc := of_decide_eq_false hc
  refine cw ?_
  refine K7 _ ?_
  refine yR ?_
  refine yM rfl rfl ?_
  refine aa rfl (bu rfl rfl rfl (by omega)) ?_
  refine yA rfl rfl ?_
  refine yN ?_
  dsimp only [St.put]
  rw [ue3 (n := n) hk (by omega)]
  exact ⟨k + 1, by omega, by omega, ⟨⟨rfl, rfl⟩, zF, zB, zN, zX⟩⟩
 try replace hc := of_decide_eq_false hc
 refine cw ?_
 refine K3 _ ?_
 refine yS fun _ K16 => ?_
 refine yR ?_
 refine yM rfl rfl ?_
 refine yA rfl rfl ?_
 refine yN ?_
 dsimp only [St.put]
 rw [ff (show t.length ≤ k by omega)]
 refine K16 _ ?_
 refine aw ?_
 refine lg rfl (fk (by constructor)) zN zS ?_
 exact zW
end Go.Proofs.YtgffhbbcpgdjjaaDoor
namespace Go.AB
/-- a sum -/
def sm : Nat → (Nat → Int) → Int
 | 0, _ => 0
 | n + 1, g => sm n g + g n
theorem uas : ∀ {n : Nat} {g h : Nat → Int}, (∀ i, i < n → g i ≤ h i) → sm n g ≤ sm n h
 | 0, _, _, _ => Int.le_refl _
 | n + 1, g, h, H => by
  have h1 := uas (n := n) fun i hi => H i (by omega)
  have h2 := H n (by omega)
  simp only [sm]; omega
theorem uar : ∀ n : Nat, sm n (fun _ => 0) = 0
 | 0 => rfl
 | n + 1 => by have := uar n; simp only [sm]; omega
theorem ugm {n : Nat} {g : Nat → Int} (H : ∀ i, i < n → 0 ≤ g i) : 0 ≤ sm n g := by
 have := uas (g := fun _ => 0) H
 rwa [uar] at this
/-- pages, each with a first and a second reader, or one of them, or none -/
structure Net where
 nF : Nat
 nr : Nat
 np : Nat
 fr : Nat → Option Nat
 sc : Nat → Option Nat
def ob (S : Nat → Bool) : Option Nat → Bool
 | none => false
 | some i => S i
def Net.hit (N : Net) (S : Nat → Bool) (j : Nat) : Bool := ob S (N.fr j) || ob S (N.sc j)
/-- who reads a page -/
def Net.by (N : Net) (j i : Nat) : Bool := decide (N.fr j = some i) || decide (N.sc j = some i)
/-- what a set of readers proves -/
def Net.f (N : Net) (R C : Nat → Int) (S : Nat → Bool) : Int := sm N.nr (fun i => bif S i then R i else 0) + sm N.np (fun j => bif N.hit S j then 0 else C j)
section
variable {N : Net} {R C : Nat → Int}
/-- so much less for the readers of a page, and nothing more on it -/
def Net.lessR (N : Net) (R : Nat → Int) (j : Nat) (n : Int) (i : Nat) : Int := bif N.by j i then R i - n else R i
def me (C : Nat → Int) (j k : Nat) : Int := bif decide (k = j) then 0 else C k
/-- the least of some numbers, as it is looked for -/
def jy (g : Nat → Int) : Nat → Int
 | 0 => g 0
 | k + 1 => min (jy g k) (g k)
theorem uch {g : Nat → Int} : ∀ k : Nat, ∃ s, (s < k ∨ s = 0) ∧ jy g k = g s
 | 0 => ⟨0, .inr rfl, rfl⟩
 | k + 1 => by
  obtain ⟨s, h1, h2⟩ := uch (g := g) k
  by_cases e : jy g k ≤ g k
  ·exact ⟨s, by omega, by rw [jy, Int.min_eq_left e, h2]⟩
  ·exact ⟨k, by omega, by rw [jy, Int.min_eq_right (by omega)]⟩
def Net.most (N : Net) (R C : Nat → Int) : Int := jy (fun s => N.f R C fun i => s.testBit i) (2 ^ N.nr)
end
end Go.AB
namespace Go.PB
structure bz where
 id : Int
 miss : Int
 deriving DecidableEq
structure av where
 fr : Int
 to : Int
 fst : Int
 snd : Int
 found : List PlaceD
 well : List PlaceD
 deriving DecidableEq
structure aq where
 text : ak
 firsts : List bz
 seconds : List bz
 pages : List av
 deriving DecidableEq
/-- proofs at work -/
structure cy where
 p : aq
 words : List Int
 all : List (List PlaceD)
 both : List (List PlaceD)
structure cx where
 lo : Int
 hi : Int
 deriving DecidableEq
end Go.PB
namespace Go.AB
open Go Go.RowKit
open Go.AB.Enc (cells)
open Go.PB (ay ak PlaceD bi bk bj bz av aq cy cx)
instance : Enc bz := ⟨fun x => [.v (.int .i64 x.id), .v (.int .i64 x.miss)], 2, fun _ => rfl, fun m x c h => by
 simp only [List.mem_cons, List.not_mem_nil, or_false] at h; rcases h with rfl | rfl <;> exact .v, fun x c h => by
 simp only [List.mem_cons, List.not_mem_nil, or_false] at h; rcases h with rfl | rfl <;> rfl⟩
instance : Enc av := ⟨fun x => [.v (.int .i64 x.fr), .v (.int .i64 x.to), .v (.int .i64 x.fst), .v (.int .i64 x.snd), lst x.found, lst x.well], 6, fun _ => rfl, fun m x c h => by
 simp only [List.mem_cons, List.not_mem_nil, or_false] at h
 rcases h with rfl | rfl | rfl | rfl | rfl | rfl
 ·exact .v
 ·exact .v
 ·exact .v
 ·exact .v
 ·exact cg m _
 ·exact cg m _, fun x c h => by
 simp only [List.mem_cons, List.not_mem_nil, or_false] at h; rcases h with rfl | rfl | rfl | rfl | rfl | rfl <;> rfl⟩
instance : Enc aq := ⟨fun x => [lst x.text, lst x.firsts, lst x.seconds, lst x.pages], 4, fun _ => rfl, fun m x c h => by
 simp only [List.mem_cons, List.not_mem_nil, or_false] at h
 rcases h with rfl | rfl | rfl | rfl
 ·exact cg m _
 ·exact cg m _
 ·exact cg m _
 ·exact cg m _, fun x c h => by
 simp only [List.mem_cons, List.not_mem_nil, or_false] at h; rcases h with rfl | rfl | rfl | rfl <;> rfl⟩
/-! ### Lines of a text -/
/-- the number of a chapter's first line -/
def ge (t : ak) (k : Nat) : Nat := ((t.take k).map fun c => c.lines.length).sum
theorem uao (t : ak) : ge t 0 = 0 := by simp [ge]
theorem sb {t : ak} {k : Nat} {c : ay} (h : t[k]? = some c) : ge t (k + 1) = ge t k + c.lines.length := by
 unfold ge
 rw [List.take_add_one, h]
 simp
def mr (t : ak) : Nat := ge t t.length
/-- the number of the line of a place -/
def qb (t : ak) (q : PlaceD) : Int := q.ln + (ge t q.ch.toNat : Int)
def fw (t : ak) (x : av) (q : PlaceD) : Bool := inB (qb t q) x.fr x.to
/-! ### Valid proofs -/
def m5 (a b : PlaceD) : Bool := decide (fl (dl a) (dl b) < 0)
/-- a place of a list may stand where it does -/
def jr (t : ak) (x : av) (l : List PlaceD) (i : Nat) : Bool := match l[i]? with
 | none => true
 | some q => f9 t q && fw t x q && (decide (i = 0) || match l[i - 1]? with | none => true | some a => m5 a q)
def d9 (t : ak) (x : av) (l : List PlaceD) (n : Nat) : Bool := (List.range n).all (jr t x l)
theorem g8 (t : ak) (x : av) (l : List PlaceD) (n : Nat) : d9 t x l (n + 1) = (d9 t x l n && jr t x l n) := by
 unfold d9
 rw [List.range_succ, List.all_append]
 simp
def ig (t : ak) (x : av) (r : Int) (l : List PlaceD) : Bool := (decide (0 ≤ r) || decide (l = [])) && d9 t x l l.length
def gu (r : bz) : Bool := inB r.id 0 9999 && inB r.miss 0 90
def jx (p : aq) : Bool := decide (p.firsts.length ≤ 3) && decide (p.seconds.length ≤ 3) && (p.firsts ++ p.seconds).all gu && decide ((p.firsts ++ p.seconds).map (·.id)).Nodup
def l7 (p : aq) (last : Int) (x : av) : Bool := decide (last < x.fr) && decide (x.fr ≤ x.to) && decide (x.to < (mr p.text : Int)) && inB x.fst (-1) ((p.firsts.length : Int) - 1) && ig p.text x x.fst x.found && inB x.snd (-1) ((p.seconds.length : Int) - 1) && ig p.text x x.snd x.well
/-- the last line ahead of a page -/
def ip (l : List av) : Nat → Int
 | 0 => -1
 | i + 1 => match l[i]? with | some x => x.to | none => -1
def sl (p : aq) (i : Nat) : Bool := match p.pages[i]? with
 | none => true
 | some x => l7 p (ip p.pages i) x
def px (p : aq) (n : Nat) : Bool := (List.range n).all (sl p)
theorem ubq (p : aq) (n : Nat) : px p (n + 1) = (px p n && sl p n) := by
 unfold px
 rw [List.range_succ, List.all_append]
 simp
def gj (p : aq) : Bool := jx p && decide (p.pages.length ≤ 8) && px p p.pages.length
def ey (p : aq) : Int := bif dv p.text then (bif gj p then 0 else 90) else 10
/-! ### What is found on a page -/
def ei (t : ak) (x : av) : List PlaceD := (dt t).filter fun q => decide (q ∈ x.found) || decide (q ∈ x.well)
def fe (t : ak) (x : av) : List PlaceD := (dt t).filter fun q => decide (q ∈ x.found) && decide (q ∈ x.well)
def f8 (t : ak) (x : av) : Nat := ((dt t).filter (fw t x)).length
/-! ### Bounds of readers -/
def et (b : Bool) (x : av) : Int := bif b then x.snd else x.fst
def dr (b : Bool) (x : av) : List PlaceD := bif b then x.well else x.found
def eh (p : aq) (b : Bool) : List bz := bif b then p.seconds else p.firsts
def cp (l : List av) (g : av → Nat) : Nat := (l.map g).sum
theorem ml {l : List av} {k : Nat} {x : av} {g : av → Nat} (h : l[k]? = some x) : cp (l.take (k + 1)) g = cp (l.take k) g + g x := by
 unfold cp
 rw [List.take_add_one, h]
 simp
def dq (b : Bool) (i : Int) (x : av) : Nat := bif decide (et b x = i) then (dr b x).length else 0
def ed (t : ak) (b : Bool) (i : Int) (x : av) : Nat := bif decide (et b x = i) then (ei t x).length else 0
def lz (p : aq) (b : Bool) (i : Nat) : Int := match (eh p b)[i]? with | some r => r.miss | none => 0
def mh (p : aq) (b : Bool) (i : Nat) : Int := 100 * (cp p.pages (dq b i) : Int) / (100 - lz p b i)
def jz (p : aq) (b : Bool) (i : Nat) : Int := mh p b i - (cp p.pages (ed p.text b i) : Int)
/-! ### What may remain -/
def bl (p : aq) : Nat := p.firsts.length + p.seconds.length
def dh (p : aq) (i : Nat) : Int := bif decide (i < p.firsts.length) then jz p false i else jz p true (i - p.firsts.length)
def tr (t : ak) (x : av) : Int := (f8 t x : Int) - ((ei t x).length : Int)
def iz (p : aq) : Bool := (List.range (bl p)).all fun i => decide (0 ≤ dh p i)
def eu (p : aq) : Net where
 nF := p.firsts.length
 nr := bl p
 np := p.pages.length
 fr := fun j => match p.pages[j]? with | some x => (bif decide (0 ≤ x.fst) then some x.fst.toNat else none) | none => none
 sc := fun j => match p.pages[j]? with | some x => (bif decide (0 ≤ x.snd) then some (p.firsts.length + x.snd.toNat) else none) | none => none
end Go.AB
namespace Go.AB
section
variable {N : Net} {R C : Nat → Int}
end
end Go.AB
namespace Go.AB
open Go Go.RowKit
open Go.AB.Enc (cells)
open Go.PB (ay ak PlaceD bi bk bj bz av aq cy cx)
theorem sumL_sm (g : av → Nat) : ∀ l : List av, ((cp l g : Nat) : Int) = sm l.length (fun j => match l[j]? with | some x => (g x : Int) | none => 0) := by
 intro l
 have key : ∀ k, k ≤ l.length → ((cp (l.take k) g : Nat) : Int) = sm k (fun j => match l[j]? with | some x => (g x : Int) | none => 0) := by
  intro k
  induction k with
  | zero => intro _; rfl
  | succ k ih =>
   intro hk
   have hx : l[k]? = some l[k] := List.getElem?_eq_getElem (by omega)
   rw [ml hx]
   simp only [sm, hx]
   have := ih (by omega)
   omega
 have := key l.length (Nat.le_refl _)
 rwa [List.take_length] at this
/-! ### What valid proofs are -/
structure f5 (p : aq) : Prop where
 text : dv p.text = true
 nf : p.firsts.length ≤ 3
 ns : p.seconds.length ≤ 3
 np : p.pages.length ≤ 8
 rd : ∀ r ∈ p.firsts ++ p.seconds, gu r = true
 page : ∀ (j : Nat) (x : av), p.pages[j]? = some x → l7 p (ip p.pages j) x = true
theorem zd {p : aq} (h : ey p = 0) : f5 p ∧ gj p = true := by
 unfold ey at h
 cases ht : dv p.text
 ·rw [ht] at h; simp at h
 ·cases hp : gj p
  ·rw [ht, hp] at h; simp at h
  ·refine ⟨?_, rfl⟩
   unfold gj jx at hp
   simp only [Bool.and_eq_true, decide_eq_true_eq] at hp
   obtain ⟨⟨⟨⟨⟨h1, h2⟩, h3⟩, _⟩, h5⟩, h6⟩ := hp
   refine ⟨ht, h1, h2, h5, fun r hr => List.all_eq_true.1 h3 r hr, fun j x hx => ?_⟩
   have hj := (List.getElem?_eq_some_iff.1 hx).1
   have := List.all_eq_true.1 h6 j (List.mem_range.2 hj)
   unfold sl at this
   rw [hx] at this
   exact this
structure n4 (p : aq) (last : Int) (x : av) : Prop where
 fr : last < x.fr
 to : x.fr ≤ x.to
 lt : x.to < (mr p.text : Int)
 fst : -1 ≤ x.fst ∧ x.fst ≤ (p.firsts.length : Int) - 1
 snd : -1 ≤ x.snd ∧ x.snd ≤ (p.seconds.length : Int) - 1
 found : ig p.text x x.fst x.found = true
 well : ig p.text x x.snd x.well = true
theorem pageB_true {p : aq} {last : Int} {x : av} : l7 p last x = true ↔ n4 p last x := by
 unfold l7
 simp only [Bool.and_eq_true, decide_eq_true_eq, inB_true]
 exact ⟨fun ⟨⟨⟨⟨⟨⟨h1, h2⟩, h3⟩, h4⟩, h5⟩, h6⟩, h7⟩ => ⟨h1, h2, h3, h4, h6, h5, h7⟩, fun h => ⟨⟨⟨⟨⟨⟨h.fr, h.to⟩, h.lt⟩, h.fst⟩, h.found⟩, h.snd⟩, h.well⟩⟩
theorem mw {t : ak} {x : av} {r : Int} {l : List PlaceD} (h : ig t x r l = true) {q : PlaceD} (hq : q ∈ l) : f9 t q = true ∧ fw t x q = true := by
 unfold ig at h
 rw [Bool.and_eq_true] at h
 obtain ⟨i, hi⟩ := List.getElem?_of_mem hq
 have := List.all_eq_true.1 h.2 i (List.mem_range.2 (List.getElem?_eq_some_iff.1 hi).1)
 unfold jr at this
 rw [hi] at this
 simp only [Bool.and_eq_true] at this
 exact this.1
theorem ukz {t : ak} {x : av} {r : Int} {l : List PlaceD} (h : ig t x r l = true) {i : Nat} {a q : PlaceD} (ha : l[i]? = some a) (hq : l[i + 1]? = some q) : fl (dl a) (dl q) < 0 := by
 unfold ig at h
 rw [Bool.and_eq_true] at h
 have := List.all_eq_true.1 h.2 (i + 1) (List.mem_range.2 (List.getElem?_eq_some_iff.1 hq).1)
 unfold jr at this
 rw [hq, Nat.add_sub_cancel, ha] at this
 have h9 : (f9 t q = true ∧ fw t x q = true) ∧ fl (dl a) (dl q) < 0 := by simpa [m5] using this
 exact h9.2
theorem uem {a b c : PlaceD} (h : fl (dl a) (dl b) < 0) (k : fl (dl b) (dl c) < 0) : fl (dl a) (dl c) < 0 := by
 rw [ny (by rfl)] at h k ⊢
 exact qv h k
theorem zj (a : PlaceD) : ¬ fl (dl a) (dl a) < 0 := by
 rw [ny (by rfl)]
 exact pd _
theorem ugd {l : List PlaceD} (h : ∀ (i : Nat) (a q : PlaceD), l[i]? = some a → l[i + 1]? = some q → fl (dl a) (dl q) < 0) : l.Pairwise fun a b => fl (dl a) (dl b) < 0 := by
 rw [List.pairwise_iff_getElem]
 intro i j hi hj hij
 have key : ∀ d (hd : i + 1 + d < l.length), fl (dl l[i]) (dl l[i + 1 + d]) < 0 := by
  intro d
  induction d with
  | zero => intro hd; exact h i _ _ (List.getElem?_eq_getElem hi) (List.getElem?_eq_getElem hd)
  | succ d ih =>
   intro hd
   exact uem (ih (by omega)) (h (i + 1 + d) _ _ (List.getElem?_eq_getElem (by omega)) (List.getElem?_eq_getElem hd))
 have := key (j - (i + 1)) (by omega)
 simpa [show i + 1 + (j - (i + 1)) = j by omega] using this
theorem v8 {t : ak} {x : av} {r : Int} {l : List PlaceD} (h : ig t x r l = true) : l.Pairwise fun a b => fl (dl a) (dl b) < 0 := ugd fun _ _ _ ha hq => ukz h ha hq
/-- lists in order, with the same places -/
theorem ui : ∀ {l m : List PlaceD}, l.Pairwise (fun a b => fl (dl a) (dl b) < 0) → m.Pairwise (fun a b => fl (dl a) (dl b) < 0) → (∀ q, q ∈ l ↔ q ∈ m) → l = m
 | [], [], _, _, _ => rfl
 | [], b :: m, _, _, h => by have := (h b).2 (List.mem_cons_self ..); cases this
 | a :: l, [], _, _, h => by have := (h a).1 (List.mem_cons_self ..); cases this
 | a :: l, b :: m, h1, h2, h => by
  rw [List.pairwise_cons] at h1 h2
  have hab : a = b := by
   have p1 := (h a).1 (List.mem_cons_self ..)
   have p2 := (h b).2 (List.mem_cons_self ..)
   rw [List.mem_cons] at p1 p2
   rcases p1 with rfl | p1
   ·rfl
   ·rcases p2 with rfl | p2
    ·rfl
    ·exact absurd (uem (h1.1 b p2) (h2.1 a p1)) (zj a)
  subst hab
  rw [ui h1.2 h2.2 fun q => ?_]
  constructor
  ·intro hq
   have := (h q).1 (List.mem_cons_of_mem _ hq)
   rw [List.mem_cons] at this
   rcases this with rfl | this
   ·exact absurd (h1.1 q hq) (zj q)
   ·exact this
  ·intro hq
   have := (h q).2 (List.mem_cons_of_mem _ hq)
   rw [List.mem_cons] at this
   rcases this with rfl | this
   ·exact absurd (h2.1 q hq) (zj q)
   ·exact this
/-! ### Pages between readers -/
def sk (p : aq) (j : Nat) (g : av → Int) : Int := match p.pages[j]? with | some x => g x | none => 0
theorem ubr {p : aq} {j : Nat} {x : av} (h : p.pages[j]? = some x) (g : av → Int) : sk p j g = g x := by unfold sk; rw [h]
def dx (p : aq) (j : Nat) : Int := sk p j (tr p.text)
/-- the readers of a page, as the program lists them -/
def di (p : aq) (x : av) : List Int := (bif decide (0 ≤ x.fst) then [x.fst] else []) ++ (bif decide (0 ≤ x.snd) then [(p.firsts.length : Int) + x.snd] else [])
theorem uc4 {p : aq} {j : Nat} {x : av} (hx : p.pages[j]? = some x) (S : Nat → Bool) : (eu p).hit S j = (di p x).any fun k => S k.toNat := by
 simp only [Net.hit, eu, hx, di, List.any_append]
 congr 1
 ·cases decide (0 ≤ x.fst) <;> simp [ob]
 ·by_cases q : 0 ≤ x.snd
  ·simp [q, ob, show ((p.firsts.length : Int) + x.snd).toNat = p.firsts.length + x.snd.toNat by omega]
  ·simp [q, ob]
theorem ukr {p : aq} {last : Int} {x : av} (h : n4 p last x) : (ei p.text x).length ≤ f8 p.text x := by
 unfold ei f8
 rw [← List.countP_eq_length_filter, ← List.countP_eq_length_filter]
 refine List.countP_mono_left fun q _ hq => ?_
 rw [Bool.or_eq_true, decide_eq_true_eq, decide_eq_true_eq] at hq
 rcases hq with hq | hq
 ·exact (mw h.found hq).2
 ·exact (mw h.well hq).2
theorem ulx {p : aq} (h : f5 p) (j : Nat) : 0 ≤ dx p j := by
 unfold dx sk
 cases hx : p.pages[j]? with
 | none => exact Int.le_refl _
 | some x =>
  have := ukr (pageB_true.1 (h.page j x hx))
  show 0 ≤ tr p.text x
  unfold tr
  omega
end Go.AB
namespace Go.AB
open Go Go.RowKit
open Go.AB.Enc (cells)
/-- the numbers of a set -/
def vg (n s : Nat) : List Nat := (List.range n).filter fun i => s.testBit i
def d8 (n s : Nat) : List Int := (vg n s).map fun i : Nat => (i : Int)
theorem vh (n s : Nat) : d8 (n + 1) s = d8 n s ++ (bif s.testBit n then [(n : Int)] else []) := by
 unfold d8 vg
 rw [List.range_succ, List.filter_append, List.map_append]
 cases h : s.testBit n <;> simp [h]
theorem p8 (n s : Nat) : (d8 n s).length ≤ n := by
 unfold d8 vg
 rw [List.length_map]
 have := List.length_filter_le (fun i => s.testBit i) (List.range n)
 rwa [List.length_range] at this
theorem membersL_mem {n s : Nat} {x : Int} : x ∈ d8 n s ↔ ∃ i : Nat, x = (i : Int) ∧ i < n ∧ s.testBit i = true := by
 unfold d8 vg
 simp only [List.mem_map, List.mem_filter, List.mem_range]
 exact ⟨fun ⟨i, ⟨h1, h2⟩, h3⟩ => ⟨i, h3.symm, h1, h2⟩, fun ⟨i, h3, h1, h2⟩ => ⟨i, ⟨h1, h2⟩, h3.symm⟩⟩
/-- the order of lists: shorter ones first, then by their numbers -/
def gx (a b : List Int) : Bool := decide (a.length < b.length) || (decide (a.length = b.length) && decide (fl a b < 0))
theorem zk {a b : List Int} : gx a b = true ↔ a.length < b.length ∨ (a.length = b.length ∧ ltW a b) := by
 unfold gx
 rw [Bool.or_eq_true, Bool.and_eq_true, decide_eq_true_eq, decide_eq_true_eq, decide_eq_true_eq]
 constructor
 ·rintro (h | ⟨h1, h2⟩)
  ·exact .inl h
  ·exact .inr ⟨h1, (ny h1).1 h2⟩
 ·rintro (h | ⟨h1, h2⟩)
  ·exact .inl h
  ·exact .inr ⟨h1, (ny h1).2 h2⟩
theorem zl (a : List Int) : gx a a = false := by
 rw [← Bool.not_eq_true, zk]
 rintro (h | ⟨_, h⟩)
 ·omega
 ·exact pd a h
theorem umc {a b c : List Int} (h : gx a b = true) (k : gx b c = true) : gx a c = true := by
 rw [zk] at *
 rcases h with h | ⟨h1, h2⟩
 ·rcases k with k | ⟨k1, _⟩
  ·exact .inl (by omega)
  ·exact .inl (by omega)
 ·rcases k with k | ⟨k1, k2⟩
  ·exact .inl (by omega)
  ·exact .inr ⟨by omega, qv h2 k2⟩
/-- what is found among the first sets -/
def dz (so : Nat → Bool) (n : Nat) : Nat → Option (List Int)
 | 0 => none
 | k + 1 => match dz so n k with
  | none => bif so k then some (d8 n k) else none
  | some b => bif so k && gx (d8 n k) b then some (d8 n k) else some b
def qe (so : Nat → Bool) (n : Nat) : List Int := (dz so n (2 ^ n)).getD []
structure umx (so : Nat → Bool) (n k : Nat) (b : List Int) : Prop where
 get : ∃ s, s < k ∧ so s = true ∧ b = d8 n s
 min : ∀ s, s < k → so s = true → gx (d8 n s) b = false
theorem zg (so : Nat → Bool) (n : Nat) : ∀ k, (dz so n k = none ∧ ∀ s, s < k → so s = false) ∨ ∃ b, dz so n k = some b ∧ umx so n k b
 | 0 => .inl ⟨rfl, fun s h => absurd h (Nat.not_lt_zero _)⟩
 | k + 1 => by
  rcases zg so n k with ⟨h1, h2⟩ | ⟨b, h1, h2⟩
  ·simp only [dz, h1]
   cases hs : so k
   ·exact .inl ⟨rfl, fun s h => by
     by_cases e : s = k
     ·subst e; exact hs
     ·exact h2 s (by omega)⟩
   ·exact .inr ⟨_, rfl, ⟨k, by omega, hs, rfl⟩, fun s h hso => by
     by_cases e : s = k
     ·subst e; exact zl _
     ·rw [h2 s (by omega)] at hso; cases hso⟩
  ·simp only [dz, h1]
   right
   cases hs : so k && gx (d8 n k) b
   ·refine ⟨b, rfl, ?_, fun s h hso => ?_⟩
    ·obtain ⟨s, q1, q2, q3⟩ := h2.get
     exact ⟨s, by omega, q2, q3⟩
    ·by_cases e : s = k
     ·subst e
      rw [hso, Bool.true_and] at hs
      exact hs
     ·exact h2.min s (by omega) hso
   ·rw [Bool.and_eq_true] at hs
    refine ⟨_, rfl, ⟨k, by omega, hs.1, rfl⟩, fun s h hso => ?_⟩
    by_cases e : s = k
    ·subst e; exact zl _
    ·rw [← Bool.not_eq_true]
     intro hb
     have := umc hb hs.2
     rw [h2.min s (by omega) hso] at this
     cases this
theorem umb (so : Nat → Bool) (n : Nat) : (qe so n).length ≤ n := by
 unfold qe
 rcases zg so n (2 ^ n) with ⟨h, _⟩ | ⟨b, h, k⟩
 ·rw [h]; exact Nat.zero_le _
 ·rw [h]
  obtain ⟨s, _, _, rfl⟩ := k.get
  exact p8 n s
theorem zi {so : Nat → Bool} {n k : Nat} (h : dz so n k = none) : dz so n (k + 1) = bif so k then some (d8 n k) else none := by simp only [dz, h]
theorem wl {so : Nat → Bool} {n k : Nat} {b : List Int} (h : dz so n k = some b) : dz so n (k + 1) = bif so k && gx (d8 n k) b then some (d8 n k) else some b := by simp only [dz, h]
/-- the least, as it is looked for: with the first one counted again, or not -/
theorem ujq (g : Nat → Int) : jy g 1 = g 0 := by simp [jy]
/-! ### Lists of numbers that are looked up -/
def bh (n : Nat) (R : Nat → Int) : List Int := (List.range n).map R
theorem im (n : Nat) (R : Nat → Int) : (bh n R).length = n := by simp [bh]
theorem ll {n i : Nat} (R : Nat → Int) (h : i < n) : (bh n R)[i]? = some (R i) := by simp [bh, h]
theorem ud (n : Nat) (R : Nat → Int) : bh (n + 1) R = bh n R ++ [R n] := by
 unfold bh
 rw [List.range_succ, List.map_append]; rfl
theorem r8 {n i : Nat} (R : Nat → Int) (v : Int) (h : i < n) : (bh n R).set i v = bh n fun k => bif decide (k = i) then v else R k := by
 apply List.ext_getElem?
 intro k
 rw [List.getElem?_set, im]
 by_cases hk : k < n
 ·rw [ll (fun k => bif decide (k = i) then v else R k) hk, ll R hk]
  by_cases e : i = k
  ·subst e; rw [if_pos rfl, if_pos h, decide_eq_true rfl]; rfl
  ·rw [if_neg e, decide_eq_false (Ne.symm e)]; rfl
 ·rw [List.getElem?_eq_none (by rw [im]; omega)]
  rw [if_neg (by omega), List.getElem?_eq_none (by rw [im]; omega)]
end Go.AB
namespace Go.AB
open Go Go.RowKit
open Go.AB.Enc (cells)
open Go.PB (ay ak PlaceD bi bk bj bz av aq cy cx)
/-! ### All places are in order -/
theorem umh (t : ak) : (dt t).Pairwise fun a b => fl (dl a) (dl b) < 0 := by
 unfold dt
 rw [List.pairwise_map, List.pairwise_iff_getElem]
 intro i j hi hj hij
 have h1 := List.getElem?_eq_getElem hi
 have h2 := List.getElem?_eq_getElem hj
 have h := ujb (ue6 h1).1 (ue6 h2).1
 rw [x9 h1 rfl, x9 h2 rfl] at h
 rw [ny (by rfl), ← h]
 omega
theorem allQ_mem {t : ak} {q : PlaceD} : q ∈ dt t ↔ f9 t q = true := allP_mem
theorem wa {t : ak} (f : PlaceD → Bool) : ((dt t).filter f).Pairwise fun a b => fl (dl a) (dl b) < 0 := (umh t).filter _
/-- places in order, of a text, are those of all places that are among them -/
theorem ugk {t : ak} {l : List PlaceD} (h : l.Pairwise fun a b => fl (dl a) (dl b) < 0) (hp : ∀ q ∈ l, f9 t q = true) : l = (dt t).filter fun q => decide (q ∈ l) :=
 ui h (wa _) fun q => by
  rw [List.mem_filter, decide_eq_true_eq, allQ_mem]
  exact ⟨fun h => ⟨hp q h, h⟩, fun h => h.2⟩
theorem uk0 {t : ak} {x : av} {r : Int} {l : List PlaceD} (h : ig t x r l = true) : l = (dt t).filter fun q => decide (q ∈ l) := ugk (v8 h) fun q hq => (mw h hq).1
theorem nw {t : ak} {x : av} {r : Int} {l : List PlaceD} (h : ig t x r l = true) : l.length ≤ (dt t).length := by
 rw [uk0 h]
 exact List.length_filter_le _ _
theorem rb (t : ak) (x : av) : (ei t x).length ≤ (dt t).length := List.length_filter_le _ _
theorem ul5 (t : ak) (x : av) : (fe t x).length ≤ (dt t).length := List.length_filter_le _ _
theorem ua (t : ak) (x : av) : f8 t x ≤ (dt t).length := List.length_filter_le _ _
/-! ### How great numbers are -/
theorem xd {g : av → Nat} {m : Nat} : ∀ {l : List av}, (∀ x ∈ l, g x ≤ m) → cp l g ≤ l.length * m
 | [], _ => by simp [cp]
 | x :: l, h => by
  have h1 := xd (l := l) fun y hy => h y (List.mem_cons_of_mem _ hy)
  have h2 := h x (List.mem_cons_self ..)
  simp only [cp, List.map_cons, List.sum_cons, List.length_cons] at h1 ⊢
  rw [Nat.succ_mul]
  omega
theorem x4 {p : aq} (h : f5 p) (b : Bool) (i : Int) : cp p.pages (dq b i) ≤ 4800 := by
 have hq := n1 h.text
 have h1 := xd (l := p.pages) (g := dq b i) (m := 600) fun x hx => by
  obtain ⟨j, hj⟩ := List.getElem?_of_mem hx
  have hp := pageB_true.1 (h.page j x hj)
  unfold dq
  cases decide (et b x = i)
  ·exact Nat.zero_le _
  ·cases b
   ·have := nw hp.found
    show x.found.length ≤ 600
    omega
   ·have := nw hp.well
    show x.well.length ≤ 600
    omega
 have := h.np
 have h2 : p.pages.length * 600 ≤ 8 * 600 := Nat.mul_le_mul_right _ this
 omega
theorem xu {p : aq} (h : f5 p) (b : Bool) (i : Int) : cp p.pages (ed p.text b i) ≤ 4800 := by
 have hq := n1 h.text
 have h1 := xd (l := p.pages) (g := ed p.text b i) (m := 600) fun x hx => by
  have := rb p.text x
  unfold ed
  cases decide (et b x = i)
  ·exact Nat.zero_le _
  ·show (ei p.text x).length ≤ 600
   omega
 have := h.np
 have h2 : p.pages.length * 600 ≤ 8 * 600 := Nat.mul_le_mul_right _ this
 omega
theorem yg {p : aq} (h : f5 p) (b : Bool) (i : Nat) : 0 ≤ lz p b i ∧ lz p b i ≤ 90 := by
 unfold lz
 cases hr : (eh p b)[i]? with
 | none => exact ⟨Int.le_refl _, by show (0 : Int) ≤ 90; omega⟩
 | some r =>
  have hm := List.mem_of_getElem? hr
  have : gu r = true := h.rd r (by
   rw [List.mem_append]
   cases b
   ·exact .inl hm
   ·exact .inr hm)
  unfold gu at this
  rw [Bool.and_eq_true, inB_true, inB_true] at this
  exact this.2
theorem wj {p : aq} (h : f5 p) (b : Bool) (i : Nat) : 0 ≤ mh p b i ∧ mh p b i ≤ 48000 := by
 have h1 := x4 h b i
 have h2 := yg h b i
 unfold mh
 have h3 : (0 : Int) < 100 - lz p b i := by omega
 refine ⟨Int.ediv_nonneg (by omega) (by omega), ?_⟩
 have h4 : 100 * ((cp p.pages (dq b i) : Nat) : Int) / (100 - lz p b i) ≤ 100 * ((cp p.pages (dq b i) : Nat) : Int) / 10 := by
  refine Int.le_ediv_of_mul_le (by omega) ?_
  have h5 := Int.ediv_mul_le (100 * ((cp p.pages (dq b i) : Nat) : Int)) (show (100 - lz p b i) ≠ 0 by omega)
  have h6 : 0 ≤ 100 * ((cp p.pages (dq b i) : Nat) : Int) / (100 - lz p b i) := Int.ediv_nonneg (by omega) (by omega)
  have h7 : 100 * ((cp p.pages (dq b i) : Nat) : Int) / (100 - lz p b i) * 10 ≤ 100 * ((cp p.pages (dq b i) : Nat) : Int) / (100 - lz p b i) * (100 - lz p b i) := Int.mul_le_mul_of_nonneg_left (by omega) h6
  omega
 omega
theorem ucv {p : aq} (h : f5 p) (b : Bool) (i : Nat) : -4800 ≤ jz p b i ∧ jz p b i ≤ 48000 := by
 have h1 := wj h b i
 have h2 := xu h b i
 unfold jz
 omega
theorem uj9 {p : aq} (h : f5 p) (i : Nat) : -4800 ≤ dh p i ∧ dh p i ≤ 48000 := by
 unfold dh
 cases decide (i < p.firsts.length)
 ·exact ucv h _ _
 ·exact ucv h _ _
theorem uly {p : aq} (h : f5 p) (j : Nat) : 0 ≤ dx p j ∧ dx p j ≤ 600 := by
 refine ⟨ulx h j, ?_⟩
 have hq := n1 h.text
 unfold dx sk
 cases hx : p.pages[j]? with
 | none => show (0 : Int) ≤ 600; omega
 | some x =>
  have := ua p.text x
  show tr p.text x ≤ 600
  unfold tr
  omega
/-! ### What is told -/
section
def k8 (p : aq) (e : Int) : Int := bif decide (e = 0) then (bif iz p then 0 else 8) else e
def jj (p : aq) (m : Int) : Int := bif decide (ey p = 0) then (bif decide (m < 0) then 2 else bif iz p then 0 else 8) else ey p
def atE {α : Type} (e : Int) (d v : α) : α := bif decide (e = 0) then v else d
def jp (C : Nat → Int) (l : List Int) (j : Nat) : Int := bif decide ((j : Int) ∈ l) then 0 else C j
def zq (p : aq) (l : List Int) : Int := (eu p).most (dh p) (jp (dx p) l)
def ii (p : aq) (m : Int) (s : Nat) : Bool := decide (zq p (d8 p.pages.length s) ≤ m)
def ji (p : aq) (m : Int) : List Int := atE (jj p m) [] (qe (ii p m) p.pages.length)
end
theorem zv (C : Nat → Int) : jp C [] = C := by funext j; simp [jp]
theorem zu (C : Nat → Int) (l : List Int) (i : Nat) : jp C (l ++ [(i : Int)]) = me (jp C l) i := by
 funext j
 unfold jp me
 by_cases e : j = i
 ·subst e; simp
 ·rw [decide_eq_false e, cond_false]
  congr 1
  rw [decide_eq_decide, List.mem_append, List.mem_singleton]
  constructor
  ·rintro (h | h)
   ·exact h
   ·omega
  ·exact .inl
theorem uct (N : Net) (R : Nat → Int) (j : Nat) : N.lessR R j 0 = R := by
 funext i
 unfold Net.lessR
 cases N.by j i <;> simp
end Go.AB
namespace Go.AB
open Go Go.RowKit
open Go.AB.Enc (cells)
open Go.PB (ay ak PlaceD bi bk bj bz av aq cy cx)
/-! ### Readers who miss less -/
end Go.AB
namespace Go.AB
open Go Go.RowKit
open Go.AB.Enc (cells)
open Go.PB (ay ak PlaceD bi bk bj bz av aq cy cx)
end Go.AB
namespace Go.AB
open Go Go.RowKit
open Go.AB.Enc (cells)
open Go.PB (ay ak PlaceD bi bk bj bz av aq cy cx)
end Go.AB
namespace Go.AB
open Go Go.RowKit
open Go.AB.Enc (cells)
open Go.PB (ay ak PlaceD bi bk bj bz av aq cy cx)
end Go.AB
namespace Go.AB
open Go Go.RowKit
open Go.AB.Enc (cells)
open Go.PB (ay ak PlaceD bi bk bj bz av aq cy cx)
end Go.AB
namespace Go.AB
open Go Go.RowKit
open Go.AB.Enc (cells)
open Go.PB (ay ak PlaceD bi bk bj bz av aq cy cx)
/-- who is found by one reader alone, so far -/
def gm (F W : List PlaceD) (q : PlaceD) : Bool := decide (q ∈ F) != decide (q ∈ W)
theorem ui7 (F : List PlaceD) (q : PlaceD) : gm F [] q = decide (q ∈ F) := by simp [gm]
theorem xf {l : List PlaceD} (h : l.Pairwise fun a b => fl (dl a) (dl b) < 0) : l.Nodup := h.imp fun {a b} hab e => by
 rw [ny (by rfl)] at hab
 subst e
 exact pd _ hab
theorem uf9 {l : List PlaceD} (h : l.Nodup) {k : Nat} {q : PlaceD} (hq : l[k]? = some q) : q ∉ l.take k := fun hm => by
 obtain ⟨i, hi⟩ := List.getElem?_of_mem hm
 have hik : i < k := by have := (List.getElem?_eq_some_iff.1 hi).1; rw [List.length_take] at this; omega
 rw [List.getElem?_take_of_lt hik] at hi
 obtain ⟨h1, h2⟩ := List.getElem?_eq_some_iff.1 hi
 obtain ⟨h3, h4⟩ := List.getElem?_eq_some_iff.1 hq
 have := (List.pairwise_iff_getElem.1 h) i k h1 h3 hik
 exact this (h2.trans h4.symm)
/-- the place at hand is in the map if the first reader found it -/
theorem uw {F W : List PlaceD} (hW : W.Nodup) {k : Nat} {q : PlaceD} (hq : W[k]? = some q) : gm F (W.take k) q = decide (q ∈ F) := by
 unfold gm
 rw [decide_eq_false (uf9 hW hq)]
 cases decide (q ∈ F) <;> rfl
theorem ub0 {F W : List PlaceD} (hW : W.Nodup) {k : Nat} {q : PlaceD} (hq : W[k]? = some q) (x : PlaceD) : gm F (W.take (k + 1)) x = bif decide (x = q) then !decide (q ∈ F) else gm F (W.take k) x := by
 have hm : decide (x ∈ W.take (k + 1)) = (decide (x ∈ W.take k) || decide (x = q)) := by
  rw [List.take_add_one, hq, Option.toList_some, Bool.eq_iff_iff]
  simp
 by_cases e : x = q
 ·subst e
  unfold gm
  rw [hm, decide_eq_true (rfl : x = x), Bool.or_true, cond_true]
  cases decide (x ∈ F) <;> rfl
 ·unfold gm
  rw [hm, decide_eq_false e, Bool.or_false, cond_false]
/-- what both found so far -/
def m4 (F W : List PlaceD) (k : Nat) : List PlaceD := (W.take k).filter fun q => decide (q ∈ F)
theorem ueg {F W : List PlaceD} {k : Nat} {q : PlaceD} (hq : W[k]? = some q) : m4 F W (k + 1) = m4 F W k ++ bif decide (q ∈ F) then [q] else [] := by
 unfold m4
 rw [List.take_add_one, hq, Option.toList_some, List.filter_append]
 cases h : decide (q ∈ F) <;> simp [h]
theorem ueh (F W : List PlaceD) (k : Nat) : (m4 F W k).length ≤ W.length := by
 unfold m4
 have := List.length_filter_le (fun q => decide (q ∈ F)) (W.take k)
 rw [List.length_take] at this
 omega
theorem ul3 {p : aq} {last : Int} {x : av} (h : n4 p last x) : m4 x.found x.well x.well.length = fe p.text x := by
 have hs : (m4 x.found x.well x.well.length).Pairwise fun a b => fl (dl a) (dl b) < 0 := by
  unfold m4
  rw [List.take_length]
  exact (v8 h.well).filter _
 refine ui hs (wa _) fun q => ?_
 unfold m4
 rw [List.take_length, List.mem_filter, decide_eq_true_eq]
 show _ ↔ q ∈ (dt p.text).filter _
 rw [List.mem_filter, Bool.and_eq_true, decide_eq_true_eq, decide_eq_true_eq, allQ_mem]
 exact ⟨fun ⟨h1, h2⟩ => ⟨(mw h.well h1).1, h2, h1⟩, fun ⟨_, h2, h3⟩ => ⟨h3, h2⟩⟩
/-- both's places, and those of one alone in any order, put in order: all that are found -/
theorem uez {p : aq} {last : Int} {x : av} (h : n4 p last x) {ks s : List PlaceD} (hn : ks.Nodup) (hk : ∀ q, q ∈ ks ↔ gm x.found x.well q = true) (hp : s.Perm (fe p.text x ++ ks)) (hs : s.Pairwise fun a b => ¬ fl (dl b) (dl a) < 0) : s = ei p.text x := by
 have hmb : ∀ q, q ∈ fe p.text x ↔ q ∈ x.found ∧ q ∈ x.well := fun q => by
  show q ∈ (dt p.text).filter _ ↔ _
  rw [List.mem_filter, Bool.and_eq_true, decide_eq_true_eq, decide_eq_true_eq, allQ_mem]
  exact ⟨fun h => h.2, fun h2 => ⟨(mw h.well h2.2).1, h2⟩⟩
 have hko : ∀ q, gm x.found x.well q = true ↔ (q ∈ x.found ∧ q ∉ x.well) ∨ (q ∉ x.found ∧ q ∈ x.well) := fun q => by
  unfold gm
  by_cases h1 : q ∈ x.found <;> by_cases h2 : q ∈ x.well <;> simp [h1, h2]
 have hnd : (fe p.text x ++ ks).Nodup := by
  rw [List.nodup_append]
  refine ⟨xf (wa _), hn, fun a ha b hb e => ?_⟩
  subst e
  have h1 := (hmb a).1 ha
  rcases (hko a).1 ((hk a).1 hb) with h2 | h2
  ·exact h2.2 h1.2
  ·exact h2.1 h1.1
 have hsn : s.Nodup := hp.nodup_iff.2 hnd
 have hs2 : s.Pairwise fun a b => fl (dl a) (dl b) < 0 := by
  have := List.Pairwise.and hs hsn
  refine this.imp fun {a b} hab => ?_
  rw [ny (by rfl)] at hab ⊢
  refine Classical.byContradiction fun hno => hab.2 ?_
  exact uki (yj (by rfl) hno hab.1)
 refine ui hs2 (wa _) fun q => ?_
 rw [hp.mem_iff, List.mem_append, hmb, hk, hko]
 show _ ↔ q ∈ (dt p.text).filter _
 rw [List.mem_filter, Bool.or_eq_true, decide_eq_true_eq, decide_eq_true_eq, allQ_mem]
 constructor
 ·rintro (⟨h1, h2⟩ | ⟨h1, _⟩ | ⟨_, h2⟩)
  ·exact ⟨(mw h.found h1).1, .inl h1⟩
  ·exact ⟨(mw h.found h1).1, .inl h1⟩
  ·exact ⟨(mw h.well h2).1, .inr h2⟩
 ·rintro ⟨_, h1 | h1⟩
  ·by_cases h2 : q ∈ x.well
   ·exact .inl ⟨h1, h2⟩
   ·exact .inr (.inl ⟨h1, h2⟩)
  ·by_cases h2 : q ∈ x.found
   ·exact .inl ⟨h2, h1⟩
   ·exact .inr (.inr ⟨h2, h1⟩)
/-! ### The words of a page, line by line -/
def gh (t : ak) (x : av) (l : List PlaceD) : Nat := (l.filter (fw t x)).length
theorem uaa (t : ak) (x : av) {k n : Nat} {c : ay} {l : List ByteArray} (hn : c.lines[n]? = some l) : gh t x (gy t k c.lines (n + 1)) = gh t x (gy t k c.lines n) + bif inB ((ge t k : Int) + (n : Int)) x.fr x.to then l.length else 0 := by
 have e : gy t k c.lines (n + 1) = gy t k c.lines n ++ (kb k n l).map (·.1) := by
  unfold gy
  rw [ze k hn, List.map_append, List.append_assoc]
 unfold gh
 rw [e, List.filter_append, List.length_append]
 congr 1
 have hall : ∀ q ∈ (kb k n l).map (·.1), fw t x q = inB ((ge t k : Int) + (n : Int)) x.fr x.to := fun q hq => by
  obtain ⟨y, hy, rfl⟩ := List.mem_map.1 hq
  obtain ⟨w, hw, rfl⟩ := List.mem_mapIdx.1 hy
  show inB (qb t ⟨(k : Int), (n : Int), (w : Int)⟩) x.fr x.to = _
  unfold qb
  dsimp only
  rw [Int.toNat_natCast, Int.add_comm]
 have hlen : ((kb k n l).map (·.1)).length = l.length := by rw [List.length_map]; unfold kb; rw [List.length_mapIdx]
 cases hb : inB ((ge t k : Int) + (n : Int)) x.fr x.to
 ·rw [List.filter_eq_nil_iff.2 fun q hq => by rw [hall q hq, hb]; simp]; rfl
 ·rw [List.filter_eq_self.2 fun q hq => by rw [hall q hq, hb], hlen]; rfl
theorem ufo (t : ak) (x : av) : gh t x (dt t) = f8 t x := rfl
end Go.AB
namespace Go.AB
open Go Go.RowKit
open Go.AB.Enc (cells)
open Go.PB (ay ak PlaceD bi bk bj bz av aq cy cx)
section
variable {N : Net} {R C : Nat → Int}
end
end Go.AB
namespace Go.PB
structure dp where
 readers : List Int
 pages : List Int
 read : List (List Int)
/-- the reference's: readers and pages alone -/
structure dm where
 readers : List Int
 pages : List Int
end Go.PB
namespace Go.AB
open Go Go.RowKit
open Go.AB.Enc (cells)
open Go.PB (ay ak PlaceD bi bk bj bz av aq cy cx dp dm)
instance : Enc dp := ⟨fun x => [lst x.readers, lst x.pages, lst x.read], 3, fun _ => rfl, fun m x c h => by
 simp only [List.mem_cons, List.not_mem_nil, or_false] at h
 rcases h with rfl | rfl | rfl
 ·exact cg m _
 ·exact cg m _
 ·exact cg m _, fun x c h => by
 simp only [List.mem_cons, List.not_mem_nil, or_false] at h; rcases h with rfl | rfl | rfl <;> rfl⟩
instance : Enc dm := ⟨fun x => [lst x.readers, lst x.pages], 2, fun _ => rfl, fun m x c h => by
 simp only [List.mem_cons, List.not_mem_nil, or_false] at h
 rcases h with rfl | rfl
 ·exact cg m _
 ·exact cg m _, fun x c h => by
 simp only [List.mem_cons, List.not_mem_nil, or_false] at h; rcases h with rfl | rfl <;> rfl⟩
def ie (p : aq) (R C : Nat → Int) : dp := ⟨bh (bl p) R, bh p.pages.length C, p.pages.map (di p)⟩
def o4 (p : aq) (R C : Nat → Int) : dm := ⟨bh (bl p) R, bh p.pages.length C⟩
/-- numbers that no sum of takes too far -/
structure Bd (p : aq) (R C : Nat → Int) : Prop where
 r : ∀ i, -1000000 ≤ R i ∧ R i ≤ 1000000
 c : ∀ j, 0 ≤ C j ∧ C j ≤ 1000000
 nr : bl p ≤ 6
 np : p.pages.length ≤ 8
theorem wr {p : aq} (h : f5 p) : Bd p (dh p) (dx p) := ⟨fun i => by have := uj9 h i; omega, fun j => by have := uly h j; omega, by have := h.nf; have := h.ns; unfold bl; omega, h.np⟩
/-- what some first readers of a set have -/
def fR (R : Nat → Int) (S : Nat → Bool) (i : Nat) : Int := sm i fun k => bif S k then R k else 0
def fC (p : aq) (C : Nat → Int) (S : Nat → Bool) (j : Nat) : Int := sm j fun k => bif (eu p).hit S k then 0 else C k
theorem yz (p : aq) (R C : Nat → Int) (S : Nat → Bool) : (eu p).f R C S = fR R S (bl p) + fC p C S p.pages.length := rfl
theorem xg {g : Nat → Int} {m : Int} (h : ∀ i, -m ≤ g i ∧ g i ≤ m) : ∀ n : Nat, -(n * m) ≤ sm n g ∧ sm n g ≤ n * m
 | 0 => by simp [sm]
 | n + 1 => by
  have h1 := xg h n
  have h2 := h n
  have e : ((n + 1 : Nat) : Int) * m = (n : Int) * m + m := by rw [Int.natCast_add, Int.add_mul]; simp
  simp only [sm]
  omega
theorem tl {p : aq} {R C : Nat → Int} (h : Bd p R C) (S : Nat → Bool) (i : Nat) (hi : i ≤ bl p) : -6000000 ≤ fR R S i ∧ fR R S i ≤ 6000000 := by
 have := xg (g := fun k => bif S k then R k else 0) (m := 1000000) (fun k => by cases S k; simp; exact h.r k) i
 have := h.nr
 unfold fR
 omega
theorem y5 {p : aq} {R C : Nat → Int} (h : Bd p R C) (S : Nat → Bool) (j : Nat) (hj : j ≤ p.pages.length) : 0 ≤ fC p C S j ∧ fC p C S j ≤ 8000000 := by
 have h1 := xg (g := fun k => bif (eu p).hit S k then 0 else C k) (m := 1000000) (fun k => by have := h.c k; cases (eu p).hit S k; simp; omega; simp) j
 have h2 := ugm (n := j) (g := fun k => bif (eu p).hit S k then 0 else C k) fun k _ => by have := h.c k; cases (eu p).hit S k; exact this.1; exact Int.le_refl _
 have := h.np
 unfold fC
 omega
theorem f_bd {p : aq} {R C : Nat → Int} (h : Bd p R C) (S : Nat → Bool) : -6000000 ≤ (eu p).f R C S ∧ (eu p).f R C S ≤ 14000000 := by
 have h1 := tl h S _ (Nat.le_refl _)
 have h2 := y5 h S _ (Nat.le_refl _)
 rw [yz]
 omega
theorem uci {g : Nat → Int} {a b : Int} (h : ∀ s, a ≤ g s ∧ g s ≤ b) (k : Nat) : a ≤ jy g k ∧ jy g k ≤ b := by
 obtain ⟨s, _, e⟩ := uch (g := g) k
 rw [e]
 exact h s
end Go.AB
namespace Go.AB
open Go Go.RowKit
open Go.AB.Enc (cells)
section
variable {P : Program} {o : Oper} {st : St} {K : St → Prop}
end
end Go.AB
namespace Go.AB
open Go Go.RowKit Go.Shelf Go.Proofs
open Go.AB.Enc (cells)
section
variable {P : Program} {o : Oper} {st : St} {K : St → Prop}
theorem uiy {E : Env} {w : World} {v : Value} {n ver len : Nat} (hp : R E w (.own n ver len) v) : ∃ a cap, v = .slice a len cap ∧ n < E.nx ∧ len ≤ cap ∧ cap ≤ maxLen ∧ ∀ ver' wv val, E.T n = some (ver', wv, val) → ver ≤ ver' ∧ (ver = ver' → ∃ m, len ≤ m ∧ val = .slice a m cap) := by
 cases hp with
 | own h1 h2 h3 h4 => exact ⟨_, _, rfl, h1, h2, h3, h4⟩
/-- append of nothing onto an own slice. -/
theorem ujn {t e : TypeId} {sz bytes n ver m : Nat} [AppT P t e sz bytes] {s x : Operand} {tk : Tok} (ho : o.op = .call { callee := .builtin .append, args := #[s, x], argTypes := #[t, t] }) (hs : evC st s = .own n ver m) (hx : evC st x = .list [] tk) : NStep P o st (.own n ver m) := fun E w a hsim => by
 obtain ⟨ht, i, z, hie, hz, h1, h2, h3⟩ := AppT.spec (P := P) (t := t) (e := e) (sz := sz) (bytes := bytes)
 have hown := hs ▸ hsim.ev s
 obtain ⟨ad, cap, e1, q1, q2, q3, q4⟩ := uiy hown
 obtain ⟨ao, c, _, _, e3, _⟩ := (hx ▸ hsim.ev x).list_inv
 refine ⟨a.eval s, hown, fun w' => ?_⟩
 have hrun := sf (P := P) w' t o.type e i ht hie ad ao m cap c q2
 simp only [execOp, ho, resolve, invoke, builtin, Sem.run_bind, Sem.run_pure, Result.andThen_ok, List.map_toArray, List.map_cons, List.map_nil, e1, e3]
 rw [List.length_nil] at *
 rw [hrun]; rfl
/-- append of data onto an own slice. -/
theorem fu {α : Type} [Enc α] {t e : TypeId} {bytes n ver wv : Nat} [AppT P t e (Enc.n α) bytes] {s x : Operand} {tk : Tok} {rows : List (List C)} {xs : List α} {m : Nat} {cs : List C} (ys : List α) (ho : o.op = .call { callee := .builtin .append, args := #[s, x], argTypes := #[t, t] }) (hs : evC st s = .own n ver m) (hG : st.G n = some (.arr ver wv e (Enc.n α) m cs)) (hc : cs = ct xs) (hm : m = xs.length) (hx : evC st x = .list rows tk) (hy : rows = ys.map cells) (hb : (xs.length + ys.length) * bytes ≤ 140737488355328) (hmax : xs.length + ys.length ≤ 9223372036854775807)
  (h : ∀ v : Nat, K (St.put { st with G := ai st.G n (.arr v wv e (Enc.n α) (xs ++ ys).length (ct (xs ++ ys))) } o.dst (.own n v (xs ++ ys).length))) : EStep P o st K := by
 subst hc; subst hm; subst hy
 by_cases h0 : ys = []
 ·subst h0
  have h1 := h ver
  simp only [List.append_nil] at h1
  have h2 : ai st.G n (.arr ver wv e (Enc.n α) xs.length (ct xs)) = st.G := by
   funext k
   simp only [ai]
   split
   ·rename_i e; rw [e, hG]
   ·rfl
  rw [h2] at h1
  exact SStep.e' (NStep.s (D := fun _ => True) (ujn ho hs hx)) h1
 ·refine ulf ho hs hG hx (ma ys) (by simpa using hb) (by simpa using hmax) (by simpa using h0) ?_
  have h1 := h (ver + 1)
  rw [udi] at h1
  simpa [ct] using h1
end
end Go.AB
namespace Go.AB
open Go Go.RowKit
open Go.AB.Enc (cells)
open Go.PB (ay ak PlaceD bi bk bj bz av aq cy cx dp dm)
/-- the first of some numbers that is not nought -/
def orN (xs : List Int) : Int := (xs.find? fun x => !decide (x = 0)).getD 0
theorem ui0 {xs : List Int} {k : Nat} {x : Int} (hx : xs[k]? = some x) (hne : x ≠ 0) (h : ∀ y ∈ xs.take k, y = 0) : orN xs = x := by
 unfold orN
 rw [List.find?_eq_some_iff_append.2 ⟨by simpa using hne, xs.take k, xs.drop (k + 1), ?_, fun y hy => by simp [h y hy]⟩]
 ·rfl
 obtain ⟨h1, h2⟩ := List.getElem?_eq_some_iff.1 hx
 rw [← h2, ← List.drop_eq_getElem_cons h1, List.take_append_drop]
theorem ui2 {xs : List Int} (h : ∀ y ∈ xs, y = 0) : orN xs = 0 := by
 unfold orN
 rw [List.find?_eq_none.2 fun y hy => by simp [h y hy]]
 rfl
theorem ujs {α : Type} {l : List α} {k : Nat} {x : α} {p : α → Prop} (hx : l[k]? = some x) (hp : p x) (h : ∀ y ∈ l.take k, p y) : ∀ y ∈ l.take (k + 1), p y := fun y hy => by
 rw [List.take_add_one, hx] at hy
 simp only [Option.toList_some, List.mem_append, List.mem_singleton] at hy
 rcases hy with hy | rfl
 ·exact h y hy
 exact hp
def l8 (a b : PlaceD) : Int := fl (dl a) (dl b)
theorem ui1 (a b : PlaceD) : orN [ir a.ch b.ch, ir a.ln b.ln, ir a.wd b.wd] = l8 a b := by
 unfold orN l8 dl
 simp only [fl]
 by_cases h1 : ir a.ch b.ch = 0
 ·by_cases h2 : ir a.ln b.ln = 0
  ·by_cases h3 : ir a.wd b.wd = 0 <;> simp [h1, h2, h3]
  simp [h1, h2]
 simp [h1]
/-- the order of lists, shorter ones first -/
def xi (a b : List Int) : Int := orN [(a.length : Int) - (b.length : Int), fl a b]
theorem uk (a b : List Int) : decide (xi a b < 0) = gx a b := by
 unfold xi orN gx
 by_cases h1 : (a.length : Int) - (b.length : Int) = 0
 ·have h2 : a.length = b.length := by omega
  have h3 : ¬ a.length < b.length := by omega
  by_cases h4 : fl a b = 0
  ·simp [h2, h4]
  simp [h2, h4]
 have h2 : ¬ a.length = b.length := by omega
 by_cases h3 : a.length < b.length
 ·have : (a.length : Int) - (b.length : Int) < 0 := by omega
  simp [h1, h2, h3, this]
 have : ¬ (a.length : Int) - (b.length : Int) < 0 := by omega
 simp [h1, h2, h3, this]
def mn (t : ak) (k : Nat) : List Int := (List.range k).map fun i => (ge t i : Int)
theorem uam (t : ak) (k : Nat) : (mn t k).length = k := by simp [mn]
theorem uan {t : ak} {k i : Nat} (h : i < k) : (mn t k)[i]? = some (ge t i : Int) := by simp [mn, h]
theorem ugi (t : ak) (k : Nat) : mn t (k + 1) = mn t k ++ [(ge t k : Int)] := by
 unfold mn
 rw [List.range_succ, List.map_append]; rfl
theorem ug {t : ak} (ht : dv t = true) (k : Nat) (hk : k ≤ t.length) : ge t k ≤ 60 := by
 obtain ⟨h1, h2, h3⟩ := lj ht
 have key : ∀ k, k ≤ t.length → ge t k ≤ 10 * k := by
  intro k
  induction k with
  | zero => intro _; rw [uao]; exact Nat.zero_le _
  | succ k ih =>
   intro hk
   have hc : t[k]? = some t[k] := List.getElem?_eq_getElem (by omega)
   rw [sb hc]
   have := ih (by omega)
   have := (h3 _ (fq hc)).2.1
   omega
 have := key k hk
 omega
end Go.AB
namespace Go.Proofs.YtgffhbbcpgdjjaaDoor
set_option maxRecDepth 10000
open Go.RowKit Go.AB
open Go.AB.Enc (cells)
open Go.PB (ay ak PlaceD bi bk bj bz av aq cy cx dp dm)
theorem ubt (xs : List Int) : Pure Tryd.prog 81 [lst xs] (.v (.int .i64 (orN xs))) := by
 refine cz Tryd.func81 rfl (fun m => .v) fun G nx => ?_
 simp only [Tryd.ntmps81, List.length_cons, List.length_nil, Nat.reduceAdd, Nat.reduceSub]
 refine ci fun hlt => ?_
 dsimp only at hlt
 refine kd 0 (fun hf => ?_)
 replace hf := (fit_lst.1 hf).1
 refine yS fun _ K1 => ?_
 refine yR ?_
 refine yA rfl rfl ?_
 refine yN ?_
 dsimp only [St.put]
 refine K1 _ ?_
 refine yS fun _ K2 => ?_
 refine yR ?_
 refine yA rfl rfl ?_
 refine yN ?_
 dsimp only [St.put]
 refine K2 _ ?_
 refine yS fun _ K3 => ?_
 refine yS fun _ K4 => ?_
 refine yR ?_
 refine yM rfl rfl ?_
 refine aa rfl (ba rfl rfl (List.length_map _)) ?_
 refine yM rfl rfl ?_
 refine yN ?_
 dsimp only [St.put]
 refine K4 _ ?_
 refine az ?_
 refine ck 9 ?_
 refine zQ ?_
 refine c6 (G) zX ?_
 dsimp only
 refine c5 (X := Nat) (fun k => k ≤ xs.length ∧ ∀ y ∈ xs.take k, y = 0) (fun k => xs.length - k) (fun k => [(4, .any), (5, .any), (8, .v (.int .i64 (k : Int)))]) (fun k G' => G') 0 rfl ?_ ?_ (fun _ _ h => h) ?_ ?_ ?_
 ·exact ⟨by simp, by simp⟩
 ·exact zF
 ·rintro k hI
  exact zL
 ·exact fun _ _ _ _ h => .inl h
 rintro k hI
 dsimp only at hI ⊢
 refine yS fun _ K5 => ?_
 refine yR ?_
 refine aa rfl (cj rfl rfl rfl) ?_
 refine yN ?_
 dsimp only [St.put]
 refine K5 _ ?_
 refine yS fun _ K6 => ?_
 refine ar rfl (fun hc => ?_) (fun hc => ?_)
 ·replace hc := of_decide_eq_true hc
  obtain ⟨x, hx⟩ : ∃ x, xs[k]? = some x := da (by omega)
  refine ax ?_
  refine K6 _ ?_
  refine yS fun _ K7 => ?_
  refine az ?_
  refine yS fun _ K8 => ?_
  refine yR ?_
  refine aa rfl (bn rfl rfl rfl rfl (bp (by assumption)) (Enc.len _)) ?_
  refine yL rfl rfl rfl ?_
  refine yA rfl rfl ?_
  refine yN ?_
  dsimp only [St.put]
  refine K8 _ ?_
  refine yS fun _ K9 => ?_
  refine yR ?_
  refine yM rfl rfl ?_
  refine yM rfl rfl ?_
  refine aa rfl (i0 rfl rfl rfl) ?_
  refine yN ?_
  dsimp only [St.put]
  refine K9 _ ?_
  refine ar rfl (fun hc => ?_) (fun hc => ?_)
  ·replace hc := ka hc
   refine yS fun _ K10 => ?_
   refine yR ?_
   refine yM rfl rfl ?_
   refine yA rfl rfl ?_
   refine yN ?_
   dsimp only [St.put]
   refine K10 _ ?_
   refine aw ?_
   refine bg rfl (by constructor) zN zS ?_
   exact vi (ui0 hx hc hI.2).symm
  replace hc := jd hc
  refine ax ?_
  refine K7 _ ?_
  refine yR ?_
  refine aa rfl (bu rfl rfl rfl (by omega)) ?_
  refine yM rfl rfl ?_
  refine yN ?_
  dsimp only [St.put]
  exact ⟨k + 1, by omega, ⟨by omega, ujs hx hc hI.2⟩, ⟨⟨rfl, rfl⟩, zF, zB, zN, zX⟩⟩
 try replace hc := of_decide_eq_false hc
 refine cw ?_
 refine K3 _ ?_
 refine yS fun _ K11 => ?_
 refine yR ?_
 refine yM rfl rfl ?_
 refine yA rfl rfl ?_
 refine yN ?_
 dsimp only [St.put]
 refine K11 _ ?_
 refine aw ?_
 refine bg rfl (by constructor) zN zS ?_
 exact vi (by
  rw [ui2]
  have := hI.2
  rwa [ff (by omega)] at this)
theorem uis (n lo hi : Int) : Pure Tryd.prog 75 [.v (.int .i64 n), .elem [.v (.int .i64 lo)], .elem [.v (.int .i64 hi)]] (.v (.bool (mp n lo hi))) := by
 refine cz Tryd.func75 rfl (fun m => .v) fun G nx => ?_
 simp only [Tryd.ntmps75, List.length_cons, List.length_nil, Nat.reduceAdd, Nat.reduceSub]
 refine ci fun hlt => ?_
 dsimp only at hlt
 refine yS fun _ K1 => ?_
 refine yR ?_
 refine yA rfl rfl ?_
 refine yN ?_
 dsimp only [St.put]
 refine K1 _ ?_
 refine yS fun _ K2 => ?_
 refine yR ?_
 refine yM rfl rfl ?_
 refine yL rfl rfl rfl ?_
 refine aa rfl (cj rfl rfl rfl) ?_
 refine eo (fun hs => ?_) (fun hs => ?_)
 ·try replace hs := of_decide_eq_true hs
  refine yM rfl rfl ?_
  refine yK rfl ?_
  refine yK rfl ?_
  refine yK rfl ?_
  refine aa rfl (cm rfl rfl (by constructor)) ?_
  refine yA rfl rfl ?_
  refine yN ?_
  dsimp only [St.put]
  refine K2 _ ?_
  refine aw ?_
  refine bg rfl (by constructor) zN zS ?_
  exact vb (by simp [mp, hs]; try omega)
 try replace hs := of_decide_eq_false hs
 refine yM rfl rfl ?_
 refine yM rfl rfl ?_
 refine yL rfl rfl rfl ?_
 refine aa rfl (iu rfl rfl rfl) ?_
 refine aa rfl (ce rfl rfl (by constructor)) ?_
 refine yA rfl rfl ?_
 refine yN ?_
 dsimp only [St.put]
 refine K2 _ ?_
 refine aw ?_
 refine bg rfl (by constructor) zN zS ?_
 exact vb (by simp [mp, hs]; try omega)
theorem o8 (lo hi : Int) (xs : List Int) : Pure Tryd.prog 42 [.v (.int .i64 lo), .v (.int .i64 hi), lst xs] (.v (.bool (vu lo hi xs))) := by
 refine cz Tryd.func42 rfl (fun m => .v) fun G nx => ?_
 simp only [Tryd.ntmps42, List.length_cons, List.length_nil, Nat.reduceAdd, Nat.reduceSub]
 refine ci fun hlt => ?_
 dsimp only at hlt
 refine yS fun _ K1 => ?_
 refine yR ?_
 try dsimp only [St.put]
 refine yB rfl rfl rfl ?_
 try dsimp only [St.put]
 refine yB rfl rfl rfl ?_
 refine yA rfl rfl ?_
 refine yN ?_
 dsimp only [St.put]
 refine K1 _ ?_
 refine yS fun _ K2 => ?_
 refine yR ?_
 refine yM rfl rfl ?_
 refine aa rfl (qr rfl rfl) ?_
 try dsimp only [St.put]
 refine aj rfl (bq rfl rfl rfl (wy xs (fun n => mp n lo hi) _ _ fun x _ => uis x lo hi) ?_)
 refine aa rfl (ef rfl rfl) ?_
 refine yA rfl rfl ?_
 refine yN ?_
 dsimp only [St.put]
 refine K2 _ ?_
 refine aw ?_
 refine bg rfl (by constructor) zN zS ?_
 rfl
theorem xx (a b : PlaceD) : Pure Tryd.prog 69 [val a, val b] (.v (.int .i64 (l8 a b))) := by
 refine cz Tryd.func69 rfl (fun m => .v) fun G nx => ?_
 simp only [Tryd.ntmps69, List.length_cons, List.length_nil, Nat.reduceAdd, Nat.reduceSub]
 refine ci fun hlt => ?_
 dsimp only at hlt
 refine yS fun _ K1 => ?_
 refine yR ?_
 try dsimp only [St.put]
 refine yB rfl rfl rfl ?_
 try dsimp only [St.put]
 refine yB rfl rfl rfl ?_
 refine yA rfl rfl ?_
 refine yN ?_
 dsimp only [St.put]
 refine K1 _ ?_
 refine yS fun _ K2 => ?_
 refine fm [(0, none), (1, none), (2, none), (3, none), (5, none), (6, none), (7, none), (8, none), (10, none), (11, none), (12, none), (13, none), (4, none), (9, none), (14, none), (15, none), (16, none), (17, none)] (fun i => [14, 15, 16].contains i) (fun i => [4, 9, 14, 15, 16].contains i) (fun i => [0, 2, 5, 7, 10, 12, 17].contains i) [] (by kernel_rfl) (by kernel_rfl) ?_
 refine ae rfl rfl rfl rfl (bw rfl rfl rfl) ?_
 try dsimp only [St.put]
 refine ah rfl rfl rfl rfl (bf rfl rfl) ?_
 refine ae rfl rfl rfl rfl (bw rfl rfl rfl) ?_
 try dsimp only [St.put]
 refine ah rfl rfl rfl rfl (bf rfl rfl) ?_
 refine ae rfl rfl rfl rfl (bw rfl rfl rfl) ?_
 try dsimp only [St.put]
 refine ah rfl rfl rfl rfl (bf rfl rfl) ?_
 refine ae rfl rfl rfl rfl (bw rfl rfl rfl) ?_
 try dsimp only [St.put]
 refine ah rfl rfl rfl rfl (bf rfl rfl) ?_
 refine ae rfl rfl rfl rfl (bw rfl rfl rfl) ?_
 try dsimp only [St.put]
 refine ah rfl rfl rfl rfl (bf rfl rfl) ?_
 refine ae rfl rfl rfl rfl (bw rfl rfl rfl) ?_
 try dsimp only [St.put]
 refine ah rfl rfl rfl rfl (bf rfl rfl) ?_
 refine il ?_
 try dsimp only [St.put]
 refine ib rfl rfl rfl (bq rfl rfl rfl (wg _ _) ⟨zD, ?_⟩)
 try dsimp only [St.put]
 refine ib rfl rfl rfl (bq rfl rfl rfl (wg _ _) ⟨zD, ?_⟩)
 try dsimp only [St.put]
 refine fy rfl rfl rfl rfl (bq rfl rfl rfl (wg _ _) ?_)
 try dsimp only [St.put]
 refine fy rfl rfl rfl rfl (fh rfl rfl rfl (by decide) (by decide) zR (by decide) ?_)
 try dsimp only [St.put]
 refine fy rfl rfl rfl rfl (bq rfl rfl rfl (ubt [ir a.ch b.ch, ir a.ln b.ln, ir a.wd b.wd]) ?_)
 refine ep rfl rfl rfl rfl (du rfl (by constructor)) ?_
 refine ij ?_
 dsimp only [St.put]
 refine K2 _ ?_
 refine aw ?_
 refine bg rfl (by constructor) zN zS ?_
 exact vi (ui1 a b)
theorem uim (a b : List Int) (ha : a.length ≤ 1000) (hb : b.length ≤ 1000) : Pure Tryd.prog 53 [lst a, lst b] (.v (.int .i64 (xi a b))) := by
 refine cz Tryd.func53 rfl (fun m => .v) fun G nx => ?_
 simp only [Tryd.ntmps53, List.length_cons, List.length_nil, Nat.reduceAdd, Nat.reduceSub]
 refine ci fun hlt => ?_
 dsimp only at hlt
 refine yS fun _ K1 => ?_
 refine yR ?_
 refine yA rfl rfl ?_
 refine yN ?_
 dsimp only [St.put]
 refine K1 _ ?_
 refine yS fun _ K2 => ?_
 refine yR ?_
 refine yM rfl rfl ?_
 refine aa rfl (ba rfl rfl (List.length_map _)) ?_
 refine yM rfl rfl ?_
 refine aa rfl (ba rfl rfl (List.length_map _)) ?_
 refine aa rfl (io rfl rfl rfl (by omega)) ?_
 refine yM rfl rfl ?_
 refine yM rfl rfl ?_
 try dsimp only [St.put]
 refine aj rfl (bq rfl rfl rfl (ull a b ha hb) ?_)
 try dsimp only [St.put]
 refine aj rfl (fh rfl rfl rfl (by decide) (by decide) zR (by decide) ?_)
 try dsimp only [St.put]
 refine aj rfl (bq rfl rfl rfl (ubt [(a.length : Int) - (b.length : Int), fl a b]) ?_)
 refine yA rfl rfl ?_
 refine yN ?_
 dsimp only [St.put]
 refine K2 _ ?_
 refine aw ?_
 refine bg rfl (by constructor) zN zS ?_
 rfl
theorem uil (t : ak) (q : PlaceD) (ht : dv t = true) : Pure Tryd.prog 68 [fj t, val q] (.v (.bool (f9 t q))) := by
 refine cz Tryd.func68 rfl (fun m => .v) fun G nx => ?_
 simp only [Tryd.ntmps68, List.length_cons, List.length_nil, Nat.reduceAdd, Nat.reduceSub]
 refine ci fun hlt => ?_
 dsimp only at hlt
 obtain ⟨hl1, hl2, hl3⟩ := lj ht
 refine yS fun _ K1 => ?_
 refine yR ?_
 try dsimp only [St.put]
 refine yB rfl rfl rfl ?_
 try dsimp only [St.put]
 refine yB rfl rfl rfl ?_
 refine yA rfl rfl ?_
 refine yN ?_
 dsimp only [St.put]
 refine K1 _ ?_
 refine yS fun _ K2 => ?_
 refine ck 5 ?_
 refine zQ ?_
 refine km (X := Bool) (fun b => b = !(g9 t (q.ch, q.ln)).isSome) (fun b => [(29, .v (.bool b))]) (fun b G' => G') rfl ?_ (fun _ _ _ _ h => .inl h) ?_ ?_
 ·rintro b hI
  exact zL
 ·refine pn [(0, none), (1, none), (2, none), (3, none), (4, none), (5, none)] (fun _ => false) (fun i => [0, 2, 3, 4].contains i) 19 (rl [6, 19]) (by kernel_rfl) (by kernel_rfl) ?_
  refine ae rfl rfl rfl rfl (bw rfl rfl rfl) ?_
  try dsimp only [St.put]
  refine ah rfl rfl rfl rfl (bf rfl rfl) ?_
  refine ae rfl rfl rfl rfl (ba rfl rfl (List.length_map _)) ?_
  refine ae rfl rfl rfl rfl (io rfl rfl rfl (by omega)) ?_
  refine ae rfl rfl rfl rfl (bw rfl rfl rfl) ?_
  try dsimp only [St.put]
  refine ah rfl rfl rfl rfl (bf rfl rfl) ?_
  refine cc ?_
  refine ca [6] (by kernel_rfl) (by simp) ?_
  refine br ?_ ?_
  ·try dsimp only [St.put]
   refine cn rfl rfl rfl (fh rfl rfl rfl (by decide) (by decide) zR (by decide) ?_)
   refine ca [7] (by kernel_rfl) (by simp) ?_
   refine br ?_ ?_
   ·try dsimp only [St.put]
    refine cn rfl rfl rfl (bq rfl rfl rfl (o8 _ _ [_]) ?_)
    refine dw [(8, none), (9, none), (10, none), (11, none), (12, none), (13, none), (14, none), (15, none), (16, none), (17, none), (18, none), (19, none), (20, none)] (fun i => [8, 9, 10, 12, 14, 15, 17, 18, 19].contains i) 4 (rl [21, 4]) (by kernel_rfl) ?_
    refine ae rfl rfl rfl rfl (ef rfl rfl) ?_
    refine xM rfl rfl rfl rfl rfl ?_
    refine j8 (fun hs => ?_) (fun hs => ?_)
    ·have h8 : inB q.ch 0 ((t.length : Int) - 1) = false := by rw [ia] at hs; simpa using hs
     refine am rfl rfl rfl ?_
     refine am rfl rfl rfl ?_
     refine am rfl rfl rfl ?_
     refine am rfl rfl rfl ?_
     refine am rfl rfl rfl ?_
     refine am rfl rfl rfl ?_
     refine am rfl rfl rfl ?_
     refine am rfl rfl rfl ?_
     refine am rfl rfl rfl ?_
     refine am rfl rfl rfl ?_
     refine am rfl rfl rfl ?_
     refine cc ?_
     refine ca [21] (by kernel_rfl) (by simp) ?_
     refine br ?_ ?_
     ·refine gk rfl rfl rfl ?_
      refine ca [22] (by kernel_rfl) (by simp) ?_
      refine br ?_ ?_
      ·refine gk rfl rfl rfl ?_
       refine dw [(23, none), (24, none)] (fun i => [23, 24].contains i) 0 (rl [25]) (by kernel_rfl) ?_
       refine am rfl rfl rfl ?_
       refine ae rfl rfl rfl rfl (cm rfl rfl (by constructor)) ?_
       refine cc ?_
       dsimp only [St.put]
       refine e8 (by kernel_rfl) ?_
       refine ⟨_, ?_, ⟨⟨rfl, rfl⟩, zF, zB, zN, zX⟩⟩
       rw [ub]
       (simp [h8]; done)
      exact cb
     exact cb
    have h8 : inB q.ch 0 ((t.length : Int) - 1) = true := by rw [ia] at hs; simpa using hs
    have hn1' := h8
    simp only [inB_true] at hn1'
    obtain ⟨c, hcx⟩ : ∃ c, t[q.ch.toNat]? = some c := da (by omega)
    have hnl : lp t q.ch = c.lines.length := by simp [lp, hcx]
    have hll := (hl3 c (fq hcx)).2.1
    have hch : q.ch = ((q.ch.toNat : Nat) : Int) := by omega
    refine ae rfl rfl rfl rfl (bw rfl rfl rfl) ?_
    try dsimp only [St.put]
    refine ah rfl rfl rfl rfl (bf rfl rfl) ?_
    refine ae rfl rfl rfl rfl (bw rfl rfl rfl) ?_
    try dsimp only [St.put]
    refine ah rfl rfl rfl rfl (bf rfl rfl) ?_
    try dsimp only [St.put]
    refine ae rfl rfl rfl rfl (bn rfl rfl rfl (by omega) (bp (by assumption)) (Enc.len _)) ?_
    refine ae rfl rfl rfl rfl (bw rfl rfl rfl) ?_
    try dsimp only [St.put]
    refine ah rfl rfl rfl rfl (bf rfl rfl) ?_
    refine ae rfl rfl rfl rfl (ba rfl rfl (List.length_map _)) ?_
    refine ae rfl rfl rfl rfl (io rfl rfl rfl (by omega)) ?_
    refine ae rfl rfl rfl rfl (bw rfl rfl rfl) ?_
    try dsimp only [St.put]
    refine ah rfl rfl rfl rfl (bf rfl rfl) ?_
    refine cc ?_
    refine ca [21] (by kernel_rfl) (by simp) ?_
    refine br ?_ ?_
    ·try dsimp only [St.put]
     refine cn rfl rfl rfl (fh rfl rfl rfl (by decide) (by decide) zR (by decide) ?_)
     refine ca [22] (by kernel_rfl) (by simp) ?_
     refine br ?_ ?_
     ·try dsimp only [St.put]
      refine cn rfl rfl rfl (bq rfl rfl rfl (o8 _ _ [_]) ?_)
      refine dw [(23, none), (24, none)] (fun i => [23, 24].contains i) 0 (rl [25]) (by kernel_rfl) ?_
      refine ae rfl rfl rfl rfl (ef rfl rfl) ?_
      refine ae rfl rfl rfl rfl (ce rfl rfl (by constructor)) ?_
      refine cc ?_
      dsimp only [St.put]
      refine e8 (by kernel_rfl) ?_
      refine ⟨_, ?_, ⟨⟨rfl, rfl⟩, zF, zB, zN, zX⟩⟩
      rw [ub]
      (simp [h8, hnl, ia]; done)
     exact cb
    exact cb
   exact cb
  exact cb
 rintro b hst
 dsimp only at hst ⊢
 refine ar rfl (fun hc => ?_) (fun hc => ?_)
 ·have hw : g9 t (q.ch, q.ln) = none := by rw [hc] at hst; simpa using hst.symm
  refine yS fun _ K4 => ?_
  refine yR ?_
  refine yA rfl rfl ?_
  refine yN ?_
  dsimp only [St.put]
  refine K4 _ ?_
  refine aw ?_
  refine bg rfl (by constructor) zN zS ?_
  exact vb (by unfold f9; rw [hw])
 have hw0 : (g9 t (q.ch, q.ln)).isSome = true := by rw [hc] at hst; simpa using hst.symm
 obtain ⟨l, hw⟩ := Option.isSome_iff_exists.1 hw0
 obtain ⟨k, n, c, hkn, hk, hn⟩ := ry hw
 have hch : q.ch = ((k : Nat) : Int) := congrArg Prod.fst hkn
 have hln : q.ln = ((n : Nat) : Int) := congrArg Prod.snd hkn
 have hwl := t8 ht hw
 refine ax ?_
 refine K2 _ ?_
 refine yS fun _ K5 => ?_
 refine fm [(0, none), (1, none), (2, none), (3, none), (4, none), (5, none), (6, none), (7, none), (8, none), (9, none), (10, none), (11, none), (12, none), (13, none), (14, none), (15, none), (16, none), (17, none)] (fun i => [16].contains i) (fun i => [15, 16].contains i) (fun i => [0, 2, 4, 5, 7, 9, 11, 12, 13, 17].contains i) [] (by kernel_rfl) (by kernel_rfl) ?_
 refine ae rfl rfl rfl rfl (bw rfl rfl rfl) ?_
 try dsimp only [St.put]
 refine ah rfl rfl rfl rfl (bf rfl rfl) ?_
 refine ae rfl rfl rfl rfl (bw rfl rfl rfl) ?_
 try dsimp only [St.put]
 refine ah rfl rfl rfl rfl (bf rfl rfl) ?_
 try dsimp only [St.put]
 refine ae rfl rfl rfl rfl (bn rfl rfl rfl (by omega) (bp (by assumption)) (Enc.len _)) ?_
 refine ae rfl rfl rfl rfl (bw rfl rfl rfl) ?_
 try dsimp only [St.put]
 refine ah rfl rfl rfl rfl (bf rfl rfl) ?_
 refine ae rfl rfl rfl rfl (bw rfl rfl rfl) ?_
 try dsimp only [St.put]
 refine ah rfl rfl rfl rfl (bf rfl rfl) ?_
 try dsimp only [St.put]
 refine ae rfl rfl rfl rfl (bn rfl rfl rfl (by omega) (bp (by assumption)) (Enc.len _)) ?_
 try dsimp only [St.put]
 refine ah rfl rfl rfl rfl (bf rfl rfl) ?_
 refine ae rfl rfl rfl rfl (ba rfl rfl (List.length_map _)) ?_
 refine ae rfl rfl rfl rfl (io rfl rfl rfl (by omega)) ?_
 refine ae rfl rfl rfl rfl (bw rfl rfl rfl) ?_
 try dsimp only [St.put]
 refine ah rfl rfl rfl rfl (bf rfl rfl) ?_
 refine il ?_
 try dsimp only [St.put]
 refine ib rfl rfl rfl (fh rfl rfl rfl (by decide) (by decide) zR (by decide) ⟨zD, ?_⟩)
 try dsimp only [St.put]
 refine fy rfl rfl rfl rfl (bq rfl rfl rfl (o8 _ _ [_]) ?_)
 refine ep rfl rfl rfl rfl (du rfl (by constructor)) ?_
 refine ij ?_
 dsimp only [St.put]
 refine K5 _ ?_
 refine aw ?_
 refine bg rfl (by constructor) zN zS ?_
 exact vb (by unfold f9; rw [hw, ia])
theorem uiq (t : ak) (ht : dv t = true) : Pure Tryd.prog 67 [fj t] (.tup [lst (mn t t.length), .v (.int .i64 (mr t : Int))]) := by
 refine cz Tryd.func67 rfl (fun m => .tup (dd (cg _ _) (dd .v eg))) fun G nx => ?_
 simp only [Tryd.ntmps67, List.length_cons, List.length_nil, Nat.reduceAdd, Nat.reduceSub]
 refine ci fun hlt => ?_
 dsimp only at hlt
 obtain ⟨hl1, hl2, hl3⟩ := lj ht
 refine yS fun _ K1 => ?_
 refine yR ?_
 try dsimp only [St.put]
 refine yB rfl rfl rfl ?_
 refine yA rfl rfl ?_
 refine yA rfl rfl ?_
 refine yN ?_
 dsimp only [St.put]
 refine K1 _ ?_
 refine yS fun _ K2 => ?_
 refine yR ?_
 refine yA rfl rfl ?_
 refine yN ?_
 dsimp only [St.put]
 refine K2 _ ?_
 refine pp 4 3 1 rfl (by decide) ?_
 dsimp only [List.set_cons_zero, List.set_cons_succ]
 refine yS fun _ K3 => ?_
 refine yR ?_
 refine yA rfl rfl ?_
 refine yN ?_
 dsimp only [St.put]
 refine K3 _ ?_
 refine yS fun _ K4 => ?_
 refine yS fun _ K5 => ?_
 refine yR ?_
 refine yF rfl rfl rfl rfl ?_
 refine yL rfl rfl rfl ?_
 refine aa rfl (ba rfl rfl (List.length_map _)) ?_
 refine yM rfl rfl ?_
 refine yN ?_
 dsimp only [St.put]
 refine K5 _ ?_
 refine az ?_
 refine ck 12 ?_
 refine zQ ?_
 refine c6 (ai G nx (.tip 0 3 1)) zX ?_
 dsimp only
 refine c5 (X := Nat) (fun k => k ≤ t.length) (fun k => t.length - k) (fun k => [(4, .list ((mn t k).map cells) (.tip nx)), (5, .v (.int .i64 (ge t k : Int))), (7, .any), (11, .v (.int .i64 (k : Int)))]) (fun k G' => ai G nx (.tip (mn t k).length 3 1)) 0 rfl ?_ ?_ ?_ ?_ ?_ ?_
 ·exact Nat.zero_le _
 ·exact zF
 ·exact zX
 ·rintro k hI
  exact zL
 ·rintro k hI
  exact zH
 rintro k hI
 dsimp only at hI ⊢
 refine yS fun _ K6 => ?_
 refine yR ?_
 refine aa rfl (cj rfl rfl rfl) ?_
 refine yN ?_
 dsimp only [St.put]
 refine K6 _ ?_
 refine yS fun _ K7 => ?_
 refine ar rfl (fun hc => ?_) (fun hc => ?_)
 ·replace hc := of_decide_eq_true hc
  obtain ⟨c, hcx⟩ : ∃ c, t[k]? = some c := da (by omega)
  have hll := (hl3 c (fq hcx)).2.1
  have hsl := ug ht k (by omega)
  have hst : ((ge t (k + 1) : Nat) : Int) = (ge t k : Int) + (c.lines.length : Int) := by rw [sb hcx]; omega
  have hln := uam t k
  refine ax ?_
  refine K7 _ ?_
  refine yS fun _ K8 => ?_
  refine az ?_
  refine yS fun _ K9 => ?_
  refine yR ?_
  refine aa rfl (bn rfl rfl rfl rfl (bp (by assumption)) (Enc.len _)) ?_
  refine yE rfl rfl rfl ?_
  try dsimp only [St.put]
  refine aj rfl (eb rfl ?_)
  try dsimp only [St.put]
  refine aj rfl (dj rfl rfl rfl zG rfl rfl (by rfl) ?_)
  refine yN ?_
  dsimp only [St.put]
  refine K9 _ ?_
  refine gt (i := 7) rfl zG zC ?_
  dsimp only
  refine yS fun _ K10 => ?_
  refine yR ?_
  refine yM rfl rfl ?_
  refine yM rfl rfl ?_
  try dsimp only [St.put]
  refine aj rfl (fh rfl rfl rfl (by decide) (by decide) zR (by decide) ?_)
  try dsimp only [St.put]
  refine aj rfl (jh ([(ge t k : Int)]) rfl rfl zG zE rfl rfl zA ?_ zA)
  refine yA rfl rfl ?_
  refine yN ?_
  dsimp only [St.put]
  refine K10 _ ?_
  refine yR ?_
  refine yM rfl rfl ?_
  refine yF rfl rfl rfl rfl ?_
  refine yL rfl rfl rfl ?_
  refine aa rfl (ba rfl rfl (List.length_map _)) ?_
  refine aa rfl (bu rfl rfl rfl (by omega)) ?_
  refine yA rfl rfl ?_
  refine yN ?_
  dsimp only [St.put]
  refine K8 _ ?_
  refine yR ?_
  refine aa rfl (bu rfl rfl rfl (by omega)) ?_
  refine yM rfl rfl ?_
  refine yN ?_
  dsimp only [St.put]
  rw [← hst]
  simp only [← ugi]
  exact ⟨k + 1, by omega, by omega, ⟨⟨rfl, rfl⟩, zF, zB, zN, zX⟩⟩
 replace hc := of_decide_eq_false hc
 obtain rfl : k = t.length := by omega
 refine cw ?_
 refine K4 _ ?_
 refine yS fun _ K11 => ?_
 refine yR ?_
 refine yM rfl rfl ?_
 refine yM rfl rfl ?_
 refine yA rfl rfl ?_
 refine yA rfl rfl ?_
 refine yN ?_
 dsimp only [St.put]
 refine K11 _ ?_
 refine aw ?_
 refine j5 rfl (fk (by constructor)) (fk (by constructor)) zN zS ?_ ?_
 ·exact zW
 exact Wk.of_eq (vi rfl)
end Go.Proofs.YtgffhbbcpgdjjaaDoor
namespace Go.AB
open Go Go.RowKit Go.ChangeShapes Go.WideShapes
open Go.AB.Enc (cells)
open Go.PB (ay ak PlaceD bi bk bj)
/-- What is read along a type is a datum. -/
class OpensE (P : Program) (t : TypeId) (α : Type) [Enc α] : Prop where
 n : P.cellsOf t = Enc.n α
 op : ∀ {H : Type} {enc : TypeId × Value → H} {w : World} {base : Nat} {spare : Nat → Bool} {held : Bool} {fuel : Nat} {cs : List Value} {x : DataW H × List MemPlace}, DataW.trod enc P w base spare held fuel t cs = some x → ∃ a : α, Rs (j7 w) w (cells a) cs
def td (P : Program) (t : TypeId) (k : IntKind) : Bool := match P.underlying t with | some (.int k') => k' == k && P.cellsOf t == 1 | _ => false
def xe (P : Program) (t : TypeId) : Bool := match P.underlying t with | some .string => P.cellsOf t == 1 | _ => false
def xh (P : Program) (t e : TypeId) : Bool := match P.underlying t with | some (.slice e') => e' == e && P.cellsOf t == 1 | _ => false
def jv (P : Program) (t : TypeId) (l : List (Nat × TypeId × Nat)) (n : Nat) : Bool := match P.underlying t with
 | some (.struct fs) => (fs.toList.map fun f => (f.offset, f.type, P.cellsOf f.type)) == l && P.cellsOf t == n
 | _ => false
theorem uac {n : Int} (h : (Lit.int .i64 n).wf = true) : okV (.int .i64 n) = true := by
 simp [Lit.wf, IntKind.min, IntKind.max, IntKind.signed, IntKind.bits] at h
 exact kr ⟨by omega, by omega⟩
section
variable {P : Program} {t e : TypeId}
theorem yn {k : IntKind} (h : td P t k = true) : P.underlying t = some (.int k) ∧ P.cellsOf t = 1 := by
 unfold td at h
 split at h
 ·rename_i k' he
  simp only [Bool.and_eq_true, beq_iff_eq] at h
  rw [he, h.1]; exact ⟨rfl, h.2⟩
 ·cases h
theorem uak (h : xe P t = true) : P.underlying t = some .string ∧ P.cellsOf t = 1 := by
 unfold xe at h
 split at h
 ·rename_i he; exact ⟨he, by simpa using h⟩
 ·cases h
theorem uat (h : xh P t e = true) : P.underlying t = some (.slice e) ∧ P.cellsOf t = 1 := by
 unfold xh at h
 split at h
 ·rename_i k' he
  simp only [Bool.and_eq_true, beq_iff_eq] at h
  rw [he, h.1]; exact ⟨rfl, h.2⟩
 ·cases h
theorem Rs.single {E : Env} {w : World} {c : C} {v : Value} (h : R E w c v) : Rs E w [c] [v] := Rs.cons h Rs.nil
theorem Rs.single_inv {E : Env} {w : World} {c : C} {v : Value} (h : Rs E w [c] [v]) : R E w c v := h.2 0 c v rfl rfl
theorem OpensE.int (h : td P t .i64 = true) : OpensE P t Int where
 n := (yn h).2
 op hx := by
  obtain ⟨n, rfl, _, h2⟩ := DataW.trod_int (yn h).1 hx
  exact ⟨n, Rs.single (.v (uac h2))⟩
theorem OpensE.str (h : xe P t = true) : OpensE P t ByteArray where
 n := (uak h).2
 op hx := by
  obtain ⟨s, rfl, _, h2⟩ := DataW.trod_string (uak h).1 hx
  exact ⟨s, Rs.single (.v (okV_str.2 (by simpa [maxLen] using h2)))⟩
theorem ugj {w : World} {a : Addr} {v : Value} (h : w.cell? a = some v) : a.spot = none := by
 unfold World.cell? at h
 split at h
 ·split at h
  ·cases h
  ·rename_i hs
   cases hsp : a.spot with
   | none => rfl
   | some s => simp [hsp] at hs
 ·cases h
theorem ucq {α : Type} {p : Nat → α → Prop} : ∀ (n : Nat), (∀ i, i < n → ∃ x, p i x) → ∃ xs : List α, xs.length = n ∧ ∀ i x, xs[i]? = some x → p i x
 | 0, _ => ⟨[], rfl, fun i x h => by simp at h⟩
 | n + 1, h => by
  obtain ⟨xs, h1, h2⟩ := ucq n fun i hi => h i (by omega)
  obtain ⟨y, hy⟩ := h n (by omega)
  refine ⟨xs ++ [y], by simp [h1], fun i x hx => ?_⟩
  by_cases hi : i < xs.length
  ·rw [List.getElem?_append_left hi] at hx; exact h2 i x hx
  ·rw [List.getElem?_append_right (by omega)] at hx
   have hz : i - xs.length = 0 := by
    have := (List.getElem?_eq_some_iff.1 hx).1
    simp at this; omega
   rw [hz] at hx
   simp at hx
   subst hx
   rw [show i = n by omega]; exact hy
theorem ua6 {α : Type} [Enc α] {E : Env} {w : World} {b : Nat} : ∀ (xs : List α) (off : Nat), (∀ i x, xs[i]? = some x → ∃ es, Rs E w (cells x) es ∧ ∀ j e, es[j]? = some e → w.cell? ⟨b, off + i * Enc.n α + j, none⟩ = some e) →
  ∃ us, Rs E w (xs.map cells).flatten us ∧ ∀ j u, us[j]? = some u → w.cell? ⟨b, off + j, none⟩ = some u
 | [], off, _ => ⟨[], Rs.nil, by simp⟩
 | x :: xs, off, h => by
  obtain ⟨es, h1, h2⟩ := h 0 x rfl
  obtain ⟨us, h3, h4⟩ := ua6 xs (off + Enc.n α) fun i y hy => by
   obtain ⟨fs, k1, k2⟩ := h (i + 1) y (by simpa using hy)
   exact ⟨fs, k1, fun j e he => by rw [← k2 j e he]; congr 2; rw [Nat.add_mul]; omega⟩
  have hl : es.length = Enc.n α := by rw [h1.1]; exact Enc.len x
  refine ⟨es ++ us, by rw [List.map_cons, List.flatten_cons]; exact h1.append h3, fun j u hu => ?_⟩
  by_cases hj : j < es.length
  ·rw [List.getElem?_append_left hj] at hu
   rw [← h2 j u hu]; congr 2; omega
  ·rw [List.getElem?_append_right (by omega)] at hu
   rw [← h4 _ u hu]; congr 2; omega
theorem OpensE.slice {α : Type} [Enc α] [o : OpensE P e α] (h : xh P t e = true) (hpos : 1 ≤ Enc.n α) : OpensE P t (List α) where
 n := (uat h).2
 op {H enc w base spare held fuel cs x} hx := by
  rcases Deep.open_slice (uat h).1 hx with ⟨rfl, _⟩ | ⟨a, len, cap, m, n, D, Pl, rfl, hb, hl, hm, hmm, _, hel⟩
  ·refine ⟨[], Rs.single ?_⟩
   exact R.mk_list (rows := []) (sz := 1) (us := []) (Nat.le_refl _) (Nat.zero_le _) (Nat.le_refl _) (by simp) (by simp) Rs.nil (.inl rfl) (by simp) (by simp) (by simp)
  ·have hlm : len ≤ m := by rw [hmm]; split <;> omega
   have hs : 0 < len → a.spot = none := fun h0 => by
    obtain ⟨cs', hc, ht⟩ := hel 0 (by omega)
    obtain ⟨_, hlen, hcell⟩ := World.cells?_some hc
    rw [o.n] at hlen hcell
    have := hcell 0 (by omega)
    rw [List.getElem?_eq_getElem (by omega)] at this
    have := ugj this
    simpa [Addr.add] using this
   obtain ⟨xs, h1, h2⟩ := ucq (p := fun i (y : α) => ∃ es, Rs (j7 w) w (cells y) es ∧ ∀ j e, es[j]? = some e → w.cell? ⟨a.block, a.off + i * Enc.n α + j, none⟩ = some e) len fun i hi => by
    obtain ⟨cs', hc, ht⟩ := hel i (by omega)
    obtain ⟨y, hy⟩ := o.op ht
    obtain ⟨_, hlen, hcell⟩ := World.cells?_some hc
    rw [o.n] at hlen hcell hc
    have hs' := hs (by omega)
    refine ⟨y, cs', hy, fun j u hj => ?_⟩
    have hj' : j < Enc.n α := by rw [← hlen]; exact (List.getElem?_eq_some_iff.1 hj).1
    have := hcell j hj'
    rw [hj] at this
    rw [← this]
    obtain ⟨ab, ao, asp⟩ := a
    dsimp only at hs'
    subst hs'
    rw [qh, qh]
   subst h1
   refine ⟨xs, Rs.single ?_⟩
   obtain ⟨us, k1, k2⟩ := ua6 (E := j7 w) (w := w) (b := a.block) xs a.off h2
   have := R.mk_list (E := j7 w) (w := w) (rows := xs.map cells) (a := some a) (cap := cap) (sz := Enc.n α) (us := us) (tok := .none) (by simpa using hl) hm hpos (ma xs) (fun r hr c hc => by
    obtain ⟨x, _, rfl⟩ := List.mem_map.1 hr
    exact Enc.one x c hc) k1 (by
    by_cases hxs : xs = []
    ·subst hxs; exact .inl rfl
    ·right
     have hs' := hs (List.length_pos_iff.2 hxs)
     obtain ⟨ab, ao, asp⟩ := a
     dsimp only at hs'
     subst hs'
     refine ⟨ab, ao, rfl, ?_, k2⟩
     have h0 : 0 < us.length := by
      rw [k1.1, nv (ma xs), List.length_map]
      exact Nat.mul_pos (List.length_pos_iff.2 hxs) hpos
     have := ued (k2 (us.length - 1) _ (List.getElem?_eq_getElem (by omega)))
     dsimp only at this
     show ao + us.length ≤ qd w ab
     omega) (by simp) (by simp) (by simp)
   rw [List.length_map] at this
   exact this
theorem ual {l : List (Nat × TypeId × Nat)} {n : Nat} (h : jv P t l n = true) {H : Type} {enc : TypeId × Value → H} {w : World} {base : Nat} {spare : Nat → Bool} {held : Bool} {fuel : Nat} {cs : List Value} {x : DataW H × List MemPlace}
  (hx : DataW.trod enc P w base spare held fuel t cs = some x) : cs.length = n ∧ ∀ p ∈ l, ∃ m y, DataW.trod enc P w base spare held m p.2.1 ((cs.drop p.1).take p.2.2) = some y := by
 unfold jv at h
 split at h
 ·rename_i fs he
  simp only [Bool.and_eq_true, beq_iff_eq] at h
  obtain ⟨xs, m, _, _, hl, hlen, hf⟩ := DataW.trod_struct he hx
  refine ⟨by rw [hl, h.2], fun p hp => ?_⟩
  rw [← h.1] at hp
  obtain ⟨f, hfm, rfl⟩ := List.mem_map.1 hp
  obtain ⟨i, hi⟩ := List.getElem?_of_mem hfm
  have hi' : fs[i]? = some f := by simpa using hi
  have hlt : i < xs.length := by rw [hlen]; exact (Array.getElem?_eq_some_iff.1 hi').1
  exact ⟨m, xs[i], by rw [← List.getElem?_eq_getElem hlt]; exact hf i f hi'⟩
 ·cases h
theorem uf {l : List (Nat × TypeId × Nat)} {n : Nat} (h : jv P t l n = true) : P.cellsOf t = n ∧ ∃ fs, P.underlying t = some (.struct fs) := by
 unfold jv at h
 split at h
 ·rename_i fs he
  simp only [Bool.and_eq_true, beq_iff_eq] at h
  exact ⟨h.2, fs, he⟩
 ·cases h
/-- A struct of one field. -/
theorem OpensE.one {α : Type} [Enc α] [o : OpensE P e α] (h : jv P t [(0, e, Enc.n α)] (Enc.n α) = true) : OpensE P t α where
 n := (uf h).1
 op {H enc w base spare held fuel cs x} hx := by
  obtain ⟨hl, hp⟩ := ual h hx
  obtain ⟨m, y, hy⟩ := hp _ (List.mem_cons_self ..)
  obtain ⟨a, ha⟩ := o.op hy
  dsimp only at ha
  rw [List.drop_zero, List.take_of_length_le (by omega)] at ha
  exact ⟨a, ha⟩
/-- A struct, field by field. -/
theorem OpensE.struct {α : Type} [Enc α] {l : List (Nat × TypeId × Nat)} (h : jv P t l (Enc.n α) = true)
  (b : ∀ (w : World) (cs : List Value), cs.length = Enc.n α → (∀ p ∈ l, ∀ (β : Type) (_ : Enc β), OpensE P p.2.1 β → ∃ a : β, Rs (j7 w) w (cells a) ((cs.drop p.1).take p.2.2)) → ∃ a : α, Rs (j7 w) w (cells a) cs) : OpensE P t α where
 n := (uf h).1
 op {H enc w base spare held fuel cs x} hx := by
  obtain ⟨hl, hp⟩ := ual h hx
  exact b w cs hl fun p hpl β _ o => let ⟨_, _, hy⟩ := hp p hpl; o.op hy
theorem OpensE.chap {tI tL : TypeId} [oI : OpensE P tI Int] [oL : OpensE P tL (List (List ByteArray))] (h : jv P t [(0, tI, 1), (1, tL, 1)] 2 = true) : OpensE P t ay :=
 .struct (α := ay) h fun w cs hl hp => by
  obtain ⟨a, ha⟩ := hp (0, tI, 1) (by simp) Int inferInstance oI
  obtain ⟨b, hb⟩ := hp (1, tL, 1) (by simp) (List (List ByteArray)) inferInstance oL
  match cs, hl with
  | [u, v], _ => exact ⟨⟨a, b⟩, Rs.cons (Rs.single_inv ha) hb⟩
theorem OpensE.place {tI : TypeId} [oI : OpensE P tI Int] (h : jv P t [(0, tI, 1), (1, tI, 1), (2, tI, 1)] 3 = true) : OpensE P t PlaceD :=
 .struct (α := PlaceD) h fun w cs hl hp => by
  obtain ⟨a, ha⟩ := hp (0, tI, 1) (by simp) Int inferInstance oI
  obtain ⟨b, hb⟩ := hp (1, tI, 1) (by simp) Int inferInstance oI
  obtain ⟨c, hc⟩ := hp (2, tI, 1) (by simp) Int inferInstance oI
  match cs, hl with
  | [u, v, x], _ => exact ⟨⟨a, b, c⟩, Rs.cons (Rs.single_inv ha) (Rs.cons (Rs.single_inv hb) hc)⟩
/-- An argument that is a struct; a number. -/
theorem OpensE.arg {α : Type} [Enc α] [o : OpensE P t α] {l : List (Nat × TypeId × Nat)} {n : Nat} (h : jv P t l n = true) {H : Type} {enc : TypeId × Value → H} {w : World} {base : Nat} {spare : Nat → Bool} {held : Bool} {r : Reach} {b0 : Nat} {v : Value} {d : DataW H} {ps : List MemPlace}
  (hv : Value.okWide P w r b0 t v) (hd : DataW.Trod enc P w base spare held t v d ps) : ∃ a : α, R (j7 w) w (.agg (cells a)) v := by
 obtain ⟨fs, hs⟩ := (uf h).2
 obtain ⟨cs, rfl, _⟩ := okWide_struct hs hv
 obtain ⟨fuel, hf⟩ := hd
 obtain ⟨a, ha⟩ := o.op hf
 exact ⟨a, by simpa [Value.cells] using Rs.agg ha (Enc.one a)⟩
theorem OpensE.argInt (h : td P t .i64 = true) {H : Type} {enc : TypeId × Value → H} {w : World} {base : Nat} {spare : Nat → Bool} {held : Bool} {r : Reach} {b0 : Nat} {v : Value} {d : DataW H} {ps : List MemPlace}
  (hv : Value.okWide P w r b0 t v) (hd : DataW.Trod enc P w base spare held t v d ps) : ∃ a : Int, R (j7 w) w (.v (.int .i64 a)) v := by
 obtain ⟨i, rfl, _, _, wi⟩ := open_int (yn h).1 hv hd
 exact ⟨i, .v (uac wi)⟩
end
theorem ukg {P : Program} {f : FuncId} {cs : List C} {v fv : Value} {fc : C} (hp : PureF (.fact fv fc) P f cs (.v v)) {w : World} {args : List Value} (hF : R (j7 w) w fc fv) (hr : Rs (j7 w) w cs args) :
  Calls P f args.toArray w fun e w' => e = .returned v ∧ Below w.heap.size w w' := by
 obtain ⟨E1, v1, g1⟩ := udl (umn w) hF
 refine (hp _ _ (jw _ _ _) E1 w args (hr.ev v1) g1).mono ?_
 rintro e w' ⟨r, x, E', G', nx', rfl, hev, hx, _, rfl, _⟩
 exact ⟨by rw [hx.v_inv], by have := hev.below; rw [v1.B] at this; exact this⟩
end Go.AB
namespace Go.AB
open Go Go.RowKit Go.ChangeShapes Go.WideShapes
open Go.AB.Enc (cells)
variable {P : Program} {o : Oper} {st : St}
end Go.AB
namespace Go.AB
open Go Go.RowKit
open Go.AB.Enc (cells)
variable {P : Program} {o : Oper} {st : St}
theorem vd {xt yt : TypeId} {x y : Operand} {m n : Int} (ho : o.op = .binOp .mul xt x y yt) (hx : evC st x = .v (.int .i64 m)) (hy : evC st y = .v (.int .i64 n)) (hb : -9223372036854775808 ≤ m * n ∧ m * n ≤ 9223372036854775807) : NStep P o st (.v (.int .i64 (m * n))) :=
 ky ho hx hy (kr hb) fun w => by
  have : IntKind.i64.wrap (m * n) = m * n := by rw [IntKind.wrap_i64]; omega
  simp [eqGuard, binOp, Op.intArith, this]
theorem yd {xt yt : TypeId} {x y : Operand} {m n : Int} (ho : o.op = .binOp .quo xt x y yt) (hx : evC st x = .v (.int .i64 m)) (hy : evC st y = .v (.int .i64 n)) (hm : 0 ≤ m ∧ m ≤ 9223372036854775807) (hn : 0 < n) : NStep P o st (.v (.int .i64 (m / n))) := by
 have h3 : 0 ≤ m / n := Int.ediv_nonneg hm.1 (by omega)
 have h4 : m / n ≤ m := Int.ediv_le_self _ hm.1
 exact ky ho hx hy (kr (by omega)) fun w => by
  have h1 : ¬ n = 0 := by omega
  have h2 : m.tdiv n = m / n := Int.tdiv_eq_ediv_of_nonneg hm.1
  have h5 : IntKind.i64.wrap (m / n) = m / n := by rw [IntKind.wrap_i64]; omega
  simp [eqGuard, binOp, Op.intDiv, h1, h2, h5]
theorem ufz {n : Nat} (h : n ≤ 62) : (2 : Int) ^ n ≤ 4611686018427387904 := by
 have : 2 ^ n ≤ 2 ^ 62 := Nat.pow_le_pow_right (by omega) h
 have h2 : ((2 ^ n : Nat) : Int) = (2 : Int) ^ n := by norm_cast
 rw [← h2]
 have h3 : (2 : Nat) ^ 62 = 4611686018427387904 := by decide
 omega
/-- one, shifted -/
theorem u7 {xt yt : TypeId} {x y : Operand} {n : Nat} (ho : o.op = .binOp .shl xt x y yt) (hx : evC st x = .v (.int .i64 1)) (hy : evC st y = .v (.int .i64 (n : Int))) (hn : n ≤ 62) : NStep P o st (.v (.int .i64 ((2 ^ n : Nat) : Int))) := by
 have h0 := ufz hn
 have h2 : ((2 ^ n : Nat) : Int) = (2 : Int) ^ n := by norm_cast
 have h1 : 0 ≤ ((2 ^ n : Nat) : Int) := Int.natCast_nonneg _
 exact ky ho hx hy (kr (by omega)) fun w => by
  have e1 : ¬ ((n : Int) < 0) := by omega
  have e2 : min (n : Int).toNat IntKind.i64.bits = n := by rw [Int.toNat_natCast]; show min n 64 = n; omega
  have e3 : IntKind.i64.wrap (1 * 2 ^ n) = ((2 ^ n : Nat) : Int) := by rw [Int.one_mul, ← h2, IntKind.wrap_i64]; omega
  simp only [eqGuard, binOp, Op.shift, e1, if_false, e2, e3]
  rfl
/-- a number that is not below 0, shifted back -/
theorem qq {xt yt : TypeId} {x y : Operand} {k : IntKind} {m n : Nat} (ho : o.op = .binOp .shr xt x y yt) (hx : evC st x = .v (.int k (m : Int))) (hy : evC st y = .v (.int .i64 (n : Int))) (hn : n ≤ k.bits) (hm : (m : Int) ≤ hiK k) (hk : loK k ≤ 0) : NStep P o st (.v (.int k ((m / 2 ^ n : Nat) : Int))) := by
 have h4 : m / 2 ^ n ≤ m := Nat.div_le_self _ _
 exact n_int' ho hx hy (okV_int.2 (by obtain ⟨q, hq⟩ : ∃ q, m / 2 ^ n = q := ⟨_, rfl⟩; rw [hq] at h4 ⊢; omega)) fun w => by
  have e1 : ¬ ((n : Int) < 0) := by omega
  have e2 : min (n : Int).toNat k.bits = n := by rw [Int.toNat_natCast]; omega
  have e3 : (m : Int).fdiv (2 ^ n) = ((m / 2 ^ n : Nat) : Int) := by
   have h2 : ((2 ^ n : Nat) : Int) = (2 : Int) ^ n := by norm_cast
   rw [← h2, Int.fdiv_eq_ediv_of_nonneg _ (Int.natCast_nonneg _)]
   norm_cast
  simp only [eqGuard, binOp, Op.shift, e1, if_false, e2, e3]
  rfl
where
 n_int' {op : BinOp} {xt yt : TypeId} {x y : Operand} {k k' : IntKind} {m n : Int} {r : Value} (ho : o.op = .binOp op xt x y yt) (hx : evC st x = .v (.int k m)) (hy : evC st y = .v (.int k' n))
  (h1 : okV r = true) (h : ∀ w, (do eqGuard op xt x y (.int k m) (.int k' n); binOp op xt (.int k m) (.int k' n)).run P w = .ok r w) : NStep P o st (.v r) := fun E w a hs => by
  have e1 := (hx ▸ hs.ev x).v_inv
  have e2 := (hy ▸ hs.ev y).v_inv
  refine ⟨r, .v h1, fun w' => ?_⟩
  have := h w'
  simp only [execOp, ho, e1, e2, Sem.run_bind] at this ⊢
  rw [this]
  rfl
/-- the last bit -/
theorem qt {xt yt : TypeId} {x y : Operand} {k : IntKind} {m : Nat} (ho : o.op = .binOp .and xt x y yt) (hx : evC st x = .v (.int k (m : Int))) (hy : evC st y = .v (.int k 1)) (hm : m < 2 ^ k.bits) (hb : 2 ≤ k.bits) : NStep P o st (.v (.int k ((m % 2 : Nat) : Int))) := by
 have h2 : m % 2 < 2 := Nat.mod_lt _ (by omega)
 exact ky ho hx hy (okV_int.2 (by cases k <;> simp only [loK, hiK] <;> omega)) fun w => by
  have e1 : (BitVec.ofInt k.bits (m : Int) &&& BitVec.ofInt k.bits 1).toNat = m % 2 := by
   have q1 : (BitVec.ofInt k.bits (m : Int)).toNat = m := by
    rw [show BitVec.ofInt k.bits (m : Int) = BitVec.ofNat k.bits m from BitVec.ofInt_natCast .., BitVec.toNat_ofNat, Nat.mod_eq_of_lt hm]
   have q2 : (BitVec.ofInt k.bits 1).toNat = 1 := by
    rw [show BitVec.ofInt k.bits 1 = BitVec.ofNat k.bits 1 from BitVec.ofInt_natCast k.bits 1, BitVec.toNat_ofNat, Nat.mod_eq_of_lt]
    exact Nat.one_lt_two_pow (by omega)
   rw [BitVec.toNat_and, q1, q2, Nat.and_one_is_mod]
  have e2 : k.wrap ((m % 2 : Nat) : Int) = ((m % 2 : Nat) : Int) := by
   have : m % 2 = 0 ∨ m % 2 = 1 := by omega
   rcases this with h | h <;> rw [h] <;> cases k <;> decide
  simp only [eqGuard, binOp, Op.intBits, e1, e2]
  simp
end Go.AB
namespace Go.AB
open Go Go.RowKit
open Go.AB.Enc (cells)
open Go.PB (ay ak PlaceD bi bk bj bz av aq cy cx dp dm)
theorem uap {t : ak} (ht : dv t = true) (k : Nat) : ge t k ≤ 60 := by
 obtain ⟨_, h2, h3⟩ := lj ht
 have key : ∀ j, j ≤ t.length → ge t j ≤ j * 10 := by
  intro j
  induction j with
  | zero => intro _; rw [uao]; exact Nat.zero_le _
  | succ j ih =>
   intro hj
   have hc : t[j]? = some t[j] := List.getElem?_eq_getElem (by omega)
   rw [sb hc]
   have := (h3 _ (List.mem_of_getElem? hc)).2.1
   have := ih (by omega)
   omega
 by_cases q : k ≤ t.length
 ·have := key k q; omega
 have h1 := key t.length (Nat.le_refl _)
 have e : ge t k = ge t t.length := by
  unfold ge
  rw [List.take_of_length_le (show t.length ≤ k by omega), List.take_of_length_le (Nat.le_refl _)]
 omega
instance decLtW : ∀ a b : List Int, Decidable (ltW a b)
 | [], _ => isFalse (by simp [ltW])
 | _ :: _, [] => isFalse (by simp [ltW])
 | x :: a, y :: b => by
  have := decLtW a b
  unfold ltW
  exact inferInstance
theorem umd {a b : List Int} (h : a.length = b.length) : gx a b = decide (ltW a b) := by
 rw [Bool.eq_iff_iff, zk, decide_eq_true_eq]
 exact ⟨fun k => k.elim (fun k => by omega) (fun k => k.2), fun k => .inr ⟨h, k⟩⟩
/-- lists that are the same so far, and then not -/
theorem ucm : ∀ {a b : List Int} {k : Nat} {x y : Int}, a.take k = b.take k → a[k]? = some x → b[k]? = some y → x ≠ y → (ltW a b ↔ x < y)
 | [], _, _, _, _, _, h, _, _ => by simp at h
 | _ :: _, [], _, _, _, _, _, h, _ => by simp at h
 | u :: a, v :: b, 0, x, y, _, h1, h2, hn => by
  simp only [List.getElem?_cons_zero, Option.some.injEq] at h1 h2
  subst h1; subst h2
  simp only [ltW]
  exact ⟨fun h => h.elim id (fun h => absurd h.1 hn), .inl⟩
 | u :: a, v :: b, k + 1, x, y, he, h1, h2, hn => by
  simp only [List.take_succ_cons, List.cons.injEq] at he
  obtain ⟨e1, e2⟩ := he
  subst e1
  have := ucm e2 (by simpa using h1) (by simpa using h2) hn
  show (u < u ∨ u = u ∧ ltW a b) ↔ x < y
  rw [this]
  exact ⟨fun h => h.elim (fun h => absurd h (Int.lt_irrefl _)) (fun h => h.2), fun h => .inr ⟨rfl, h⟩⟩
end Go.AB
namespace Go.Proofs.YtgffhbbcpgdjjaaDoor
set_option maxRecDepth 10000
open Go.RowKit Go.AB
open Go.AB.Enc (cells)
open Go.PB (ay ak PlaceD bi bk bj bz av aq cy cx dp dm)
theorem pt (n lo hi : Int) : Pure Tryd.prog 44 [.v (.int .i64 n), .v (.int .i64 lo), .v (.int .i64 hi)] (.v (.bool (inB n lo hi))) := by
 refine cz Tryd.func44 rfl (fun m => .v) fun G nx => ?_
 simp only [Tryd.ntmps44, List.length_cons, List.length_nil, Nat.reduceAdd, Nat.reduceSub]
 refine ci fun hlt => ?_
 dsimp only at hlt
 refine yS fun _ K1 => ?_
 refine yR ?_
 refine yA rfl rfl ?_
 refine yN ?_
 dsimp only [St.put]
 refine K1 _ ?_
 refine yS fun _ K2 => ?_
 refine yR ?_
 refine yM rfl rfl ?_
 refine yM rfl rfl ?_
 refine aa rfl (lu rfl rfl rfl) ?_
 refine eo (fun hs => ?_) (fun hs => ?_)
 ·try replace hs := of_decide_eq_true hs
  refine yM rfl rfl ?_
  refine yM rfl rfl ?_
  refine yM rfl rfl ?_
  refine aa rfl (qs rfl rfl rfl) ?_
  refine aa rfl (cm rfl rfl (by constructor)) ?_
  refine yA rfl rfl ?_
  refine yN ?_
  dsimp only [St.put]
  refine K2 _ ?_
  refine aw ?_
  refine bg rfl (by constructor) zN zS ?_
  exact vb (by simp [inB, hs]; try omega)
 try replace hs := of_decide_eq_false hs
 refine yM rfl rfl ?_
 refine yK rfl ?_
 refine yK rfl ?_
 refine yK rfl ?_
 refine aa rfl (ce rfl rfl (by constructor)) ?_
 refine yA rfl rfl ?_
 refine yN ?_
 dsimp only [St.put]
 refine K2 _ ?_
 refine aw ?_
 refine bg rfl (by constructor) zN zS ?_
 exact vb (by simp [inB, hs]; try omega)
theorem uhx (t : ak) (ht : dv t = true) : Pure Tryd.prog 72 [fj t] (.v (.int .i64 (mr t : Int))) := by
 refine cz Tryd.func72 rfl (fun m => .v) fun G nx => ?_
 simp only [Tryd.ntmps72, List.length_cons, List.length_nil, Nat.reduceAdd, Nat.reduceSub]
 refine ci fun hlt => ?_
 dsimp only at hlt
 obtain ⟨hl1, hl2, hl3⟩ := lj ht
 refine yS fun _ K1 => ?_
 refine yR ?_
 try dsimp only [St.put]
 refine yB rfl rfl rfl ?_
 refine yA rfl rfl ?_
 refine yN ?_
 dsimp only [St.put]
 refine K1 _ ?_
 refine yS fun _ K2 => ?_
 refine yR ?_
 refine yA rfl rfl ?_
 refine yN ?_
 dsimp only [St.put]
 refine K2 _ ?_
 refine yS fun _ K3 => ?_
 refine yS fun _ K4 => ?_
 refine yR ?_
 refine yA rfl rfl ?_
 refine yN ?_
 dsimp only [St.put]
 refine K4 _ ?_
 refine az ?_
 refine ck 5 ?_
 refine zQ ?_
 refine c6 (G) zX ?_
 dsimp only
 refine c5 (X := Nat) (fun k => k ≤ t.length) (fun k => t.length - k) (fun k => [(3, .v (.int .i64 ((ge t k : Nat) : Int))), (4, .v (.int .i64 (k : Int)))]) (fun k G' => G') 0 rfl ?_ ?_ (fun _ _ h => h) ?_ ?_ ?_
 ·exact Nat.zero_le _
 ·exact zF
 ·rintro k hI
  exact zL
 ·exact fun _ _ _ _ h => .inl h
 rintro k hI
 dsimp only at hI ⊢
 refine yS fun _ K5 => ?_
 refine yS fun _ K6 => ?_
 refine yR ?_
 refine yM rfl rfl ?_
 refine yF rfl rfl rfl rfl ?_
 refine yL rfl rfl rfl ?_
 refine aa rfl (ba rfl rfl (List.length_map _)) ?_
 refine aa rfl (cj rfl rfl rfl) ?_
 refine yN ?_
 dsimp only [St.put]
 refine K6 _ ?_
 refine ar rfl (fun hc => ?_) (fun hc => ?_)
 ·replace hc := of_decide_eq_true hc
  obtain ⟨c, hk⟩ : ∃ x, t[k]? = some x := da (by omega)
  have hcl := hl3 c (fq hk)
  have hst := uap ht k
  refine ax ?_
  refine K5 _ ?_
  refine yS fun _ K7 => ?_
  refine az ?_
  refine yR ?_
  refine yM rfl rfl ?_
  refine yF rfl rfl rfl rfl ?_
  refine yL rfl rfl rfl ?_
  refine yM rfl rfl ?_
  refine aa rfl (bn rfl rfl rfl rfl (bp (by assumption)) (Enc.len _)) ?_
  refine yF rfl rfl rfl rfl ?_
  refine yL rfl rfl rfl ?_
  refine aa rfl (ba rfl rfl (List.length_map _)) ?_
  refine aa rfl (bu rfl rfl rfl (by omega)) ?_
  refine yA rfl rfl ?_
  refine yN ?_
  dsimp only [St.put]
  refine K7 _ ?_
  refine yR ?_
  refine yM rfl rfl ?_
  refine aa rfl (bu rfl rfl rfl (by omega)) ?_
  refine yA rfl rfl ?_
  refine yN ?_
  dsimp only [St.put]
  have e := sb hk
  rw [show ((ge t k : Nat) : Int) + (c.lines.length : Int) = ((ge t (k + 1) : Nat) : Int) by rw [e]; rfl]
  exact ⟨k + 1, by omega, by omega, ⟨⟨rfl, rfl⟩, zF, zB, zN, zX⟩⟩
 replace hc := of_decide_eq_false hc
 obtain rfl : k = t.length := by omega
 refine cw ?_
 refine K3 _ ?_
 refine yS fun _ K8 => ?_
 refine yR ?_
 refine yM rfl rfl ?_
 refine yA rfl rfl ?_
 refine yN ?_
 dsimp only [St.put]
 refine K8 _ ?_
 refine aw ?_
 refine bg rfl (by constructor) zN zS ?_
 rfl
theorem xv (t : ak) (q : PlaceD) (ht : dv t = true) (hq : f9 t q = true) : Pure Tryd.prog 64 [fj t, val q] (.v (.int .i64 (qb t q))) := by
 refine cz Tryd.func64 rfl (fun m => .v) fun G nx => ?_
 simp only [Tryd.ntmps64, List.length_cons, List.length_nil, Nat.reduceAdd, Nat.reduceSub]
 refine ci fun hlt => ?_
 dsimp only at hlt
 obtain ⟨hl1, hl2, hl3⟩ := lj ht
 obtain ⟨kc, kn, kw, c0, l0, hqe, hkc, hkn, _⟩ := ubo hq
 have hkcl := (List.getElem?_eq_some_iff.1 hkc).1
 have hknl := (List.getElem?_eq_some_iff.1 hkn).1
 have hc0 := (hl3 c0 (fq hkc)).2.1
 subst hqe
 refine yS fun _ K1 => ?_
 refine yR ?_
 try dsimp only [St.put]
 refine yB rfl rfl rfl ?_
 try dsimp only [St.put]
 refine yB rfl rfl rfl ?_
 refine yA rfl rfl ?_
 refine yN ?_
 dsimp only [St.put]
 refine K1 _ ?_
 refine yS fun _ K2 => ?_
 refine yR ?_
 refine yF rfl rfl rfl rfl ?_
 refine yL rfl rfl rfl ?_
 refine yA rfl rfl ?_
 refine yN ?_
 dsimp only [St.put]
 refine K2 _ ?_
 refine yS fun _ K3 => ?_
 refine yS fun _ K4 => ?_
 refine yR ?_
 refine yA rfl rfl ?_
 refine yN ?_
 dsimp only [St.put]
 refine K4 _ ?_
 refine az ?_
 refine ck 7 ?_
 refine zQ ?_
 refine c6 (G) zX ?_
 dsimp only
 refine c5 (X := Nat) (fun k => k ≤ kc) (fun k => kc - k) (fun k => [(5, .v (.int .i64 ((kn : Int) + ((ge t k : Nat) : Int)))), (6, .v (.int .i64 (k : Int)))]) (fun k G' => G') 0 rfl ?_ ?_ (fun _ _ h => h) ?_ ?_ ?_
 ·exact Nat.zero_le _
 ·exact zF
 ·rintro k hI
  exact zL
 ·exact fun _ _ _ _ h => .inl h
 rintro k hI
 dsimp only at hI ⊢
 refine yS fun _ K5 => ?_
 refine yS fun _ K6 => ?_
 refine yR ?_
 refine yM rfl rfl ?_
 refine yF rfl rfl rfl rfl ?_
 refine yL rfl rfl rfl ?_
 refine aa rfl (cj rfl rfl rfl) ?_
 refine yN ?_
 dsimp only [St.put]
 refine K6 _ ?_
 refine ar rfl (fun hc => ?_) (fun hc => ?_)
 ·replace hc := of_decide_eq_true hc
  obtain ⟨c, hk⟩ : ∃ x, t[k]? = some x := da (by omega)
  have hcl := hl3 c (fq hk)
  have hst := uap ht k
  refine ax ?_
  refine K5 _ ?_
  refine yS fun _ K7 => ?_
  refine az ?_
  refine yR ?_
  refine yM rfl rfl ?_
  refine yF rfl rfl rfl rfl ?_
  refine yL rfl rfl rfl ?_
  refine yM rfl rfl ?_
  refine aa rfl (bn rfl rfl rfl rfl (bp (by assumption)) (Enc.len _)) ?_
  refine yF rfl rfl rfl rfl ?_
  refine yL rfl rfl rfl ?_
  refine aa rfl (ba rfl rfl (List.length_map _)) ?_
  refine aa rfl (bu rfl rfl rfl (by omega)) ?_
  refine yA rfl rfl ?_
  refine yN ?_
  dsimp only [St.put]
  refine K7 _ ?_
  refine yR ?_
  refine yM rfl rfl ?_
  refine aa rfl (bu rfl rfl rfl (by omega)) ?_
  refine yA rfl rfl ?_
  refine yN ?_
  dsimp only [St.put]
  have e := sb hk
  rw [show (kn : Int) + ((ge t k : Nat) : Int) + (c.lines.length : Int) = (kn : Int) + ((ge t (k + 1) : Nat) : Int) by rw [e, Int.natCast_add]; omega]
  exact ⟨k + 1, by omega, by omega, ⟨⟨rfl, rfl⟩, zF, zB, zN, zX⟩⟩
 replace hc := of_decide_eq_false hc
 obtain rfl : k = kc := by omega
 refine cw ?_
 refine K3 _ ?_
 refine yS fun _ K8 => ?_
 refine yR ?_
 refine yM rfl rfl ?_
 refine yA rfl rfl ?_
 refine yN ?_
 dsimp only [St.put]
 refine K8 _ ?_
 refine aw ?_
 refine bg rfl (by constructor) zN zS ?_
 exact vi (by unfold qb; rw [Int.toNat_natCast])
theorem ubf (l : List PlaceD) (q : PlaceD) (hl : l.length ≤ 1000) : Pure Tryd.prog 65 [lst l, val q] (.v (.bool (decide (q ∈ l)))) := by
 refine cz Tryd.func65 rfl (fun m => .v) fun G nx => ?_
 simp only [Tryd.ntmps65, List.length_cons, List.length_nil, Nat.reduceAdd, Nat.reduceSub]
 refine ci fun hlt => ?_
 dsimp only at hlt
 refine yS fun _ K1 => ?_
 refine yR ?_
 try dsimp only [St.put]
 refine yB rfl rfl rfl ?_
 refine yA rfl rfl ?_
 refine yN ?_
 dsimp only [St.put]
 refine K1 _ ?_
 refine yS fun _ K2 => ?_
 refine yS fun _ K3 => ?_
 refine yR ?_
 refine yA rfl rfl ?_
 refine yN ?_
 dsimp only [St.put]
 refine K3 _ ?_
 refine az ?_
 refine ck 6 ?_
 refine zQ ?_
 refine c6 (G) zX ?_
 dsimp only
 refine c5 (X := Nat) (fun k => k ≤ l.length ∧ ∀ y ∈ l.take k, y ≠ q) (fun k => l.length - k) (fun k => [(5, .v (.int .i64 (k : Int)))]) (fun k G' => G') 0 rfl ?_ ?_ (fun _ _ h => h) ?_ ?_ ?_
 ·exact ⟨Nat.zero_le _, by simp⟩
 ·exact zF
 ·rintro k hI
  exact zL
 ·exact fun _ _ _ _ h => .inl h
 rintro k hI
 dsimp only at hI ⊢
 refine yS fun _ K4 => ?_
 refine yS fun _ K5 => ?_
 refine yR ?_
 refine yM rfl rfl ?_
 refine yM rfl rfl ?_
 refine aa rfl (ba rfl rfl (List.length_map _)) ?_
 refine aa rfl (cj rfl rfl rfl) ?_
 refine yN ?_
 dsimp only [St.put]
 refine K5 _ ?_
 refine ar rfl (fun hc => ?_) (fun hc => ?_)
 ·replace hc := of_decide_eq_true hc
  obtain ⟨y, hy⟩ : ∃ y, l[k]? = some y := da (by omega)
  refine ax ?_
  refine K4 _ ?_
  refine yS fun _ K6 => ?_
  refine az ?_
  refine yS fun _ K7 => ?_
  refine fm [(0, none), (1, none), (2, none), (3, none), (4, none), (5, none)] (fun i => [].contains i) (fun i => [].contains i) (fun i => [0, 1, 2, 5].contains i) [] (by kernel_rfl) (by kernel_rfl) ?_
  refine xM rfl rfl rfl rfl rfl ?_
  refine xM rfl rfl rfl rfl rfl ?_
  try dsimp only [St.put]
  refine ae rfl rfl rfl rfl (bn rfl rfl rfl rfl (bp (by assumption)) (Enc.len _)) ?_
  try dsimp only [St.put]
  refine ah rfl rfl rfl rfl (bv rfl rfl (Enc.len _)) ?_
  try dsimp only [St.put]
  refine ah rfl rfl rfl rfl (bv rfl rfl (Enc.len _)) ?_
  refine ae rfl rfl rfl rfl (ujo (x := y) (y := q) rfl rfl rfl) ?_
  refine cc ?_
  dsimp only [St.put]
  refine K7 _ ?_
  refine ar rfl (fun hc => ?_) (fun hc => ?_)
  ·have he : y = q := of_decide_eq_true hc
   refine yS fun _ K8 => ?_
   refine yR ?_
   refine yA rfl rfl ?_
   refine yN ?_
   dsimp only [St.put]
   refine K8 _ ?_
   refine aw ?_
   refine bg rfl (by constructor) zN zS ?_
   exact vb (decide_eq_true (he ▸ fq hy)).symm
  have hne : y ≠ q := of_decide_eq_false hc
  refine ax ?_
  refine K6 _ ?_
  refine yR ?_
  refine yM rfl rfl ?_
  refine aa rfl (bu rfl rfl rfl (by omega)) ?_
  refine yA rfl rfl ?_
  refine yN ?_
  dsimp only [St.put]
  exact ⟨k + 1, by omega, ⟨by omega, yh (p := fun y => y ≠ q) hy hne hI.2⟩, ⟨⟨rfl, rfl⟩, zF, zB, zN, zX⟩⟩
 replace hc := of_decide_eq_false hc
 refine cw ?_
 refine K2 _ ?_
 refine yS fun _ K9 => ?_
 refine yR ?_
 refine yA rfl rfl ?_
 refine yN ?_
 dsimp only [St.put]
 refine K9 _ ?_
 refine aw ?_
 refine bg rfl (by constructor) zN zS ?_
 exact vb (by
  have := hI.2
  rw [ff (show l.length ≤ k by omega)] at this
  exact (decide_eq_false fun h => this q h rfl).symm)
theorem uh3 (a b : List Int) (ha : a.length ≤ 1000) : Pure Tryd.prog 24 [lst a, lst b] (.v (.bool (decide (a = b)))) := by
 refine cz Tryd.func24 rfl (fun m => .v) fun G nx => ?_
 simp only [Tryd.ntmps24, List.length_cons, List.length_nil, Nat.reduceAdd, Nat.reduceSub]
 refine ci fun hlt => ?_
 dsimp only at hlt
 refine kd 1 (fun hfb => ?_)
 have hb := (fit_lst.1 hfb).1
 refine yS fun _ K1 => ?_
 refine yR ?_
 refine yA rfl rfl ?_
 refine yN ?_
 dsimp only [St.put]
 refine K1 _ ?_
 refine yS fun _ K2 => ?_
 refine yS fun _ K3 => ?_
 refine yR ?_
 refine yM rfl rfl ?_
 refine aa rfl (ba rfl rfl (List.length_map _)) ?_
 refine yM rfl rfl ?_
 refine aa rfl (ba rfl rfl (List.length_map _)) ?_
 refine aa rfl (i0 rfl rfl rfl) ?_
 refine yN ?_
 dsimp only [St.put]
 refine K3 _ ?_
 refine ar rfl (fun hc => ?_) (fun hc => ?_)
 ·try replace hc := of_decide_eq_true hc
  refine yS fun _ K4 => ?_
  refine yR ?_
  refine yA rfl rfl ?_
  refine yN ?_
  dsimp only [St.put]
  refine K4 _ ?_
  refine aw ?_
  refine bg rfl (by constructor) zN zS ?_
  exact vb (by
   have : a ≠ b := fun e => by subst e; simp at hc
   simp [this])
 have hl : a.length = b.length := by
  have := jd hc
  omega
 refine ax ?_
 refine K2 _ ?_
 refine yS fun _ K5 => ?_
 refine yS fun _ K6 => ?_
 refine yR ?_
 refine yA rfl rfl ?_
 refine yN ?_
 dsimp only [St.put]
 refine K6 _ ?_
 refine az ?_
 refine ck 6 ?_
 refine zQ ?_
 refine c6 (G) zX ?_
 dsimp only
 refine c5 (X := Nat) (fun k => k ≤ a.length ∧ a.take k = b.take k) (fun k => a.length - k) (fun k => [(5, .v (.int .i64 (k : Int)))]) (fun k G' => G') 0 rfl ?_ ?_ (fun _ _ h => h) ?_ ?_ ?_
 ·exact ⟨Nat.zero_le _, by simp⟩
 ·exact zF
 ·rintro k hI
  exact zL
 ·exact fun _ _ _ _ h => .inl h
 rintro k hI
 dsimp only at hI ⊢
 refine yS fun _ K7 => ?_
 refine yS fun _ K8 => ?_
 refine yR ?_
 refine yM rfl rfl ?_
 refine yM rfl rfl ?_
 refine aa rfl (ba rfl rfl (List.length_map _)) ?_
 refine aa rfl (cj rfl rfl rfl) ?_
 refine yN ?_
 dsimp only [St.put]
 refine K8 _ ?_
 refine ar rfl (fun hc => ?_) (fun hc => ?_)
 ·replace hc := of_decide_eq_true hc
  obtain ⟨x, hx⟩ : ∃ x, a[k]? = some x := da (by omega)
  obtain ⟨y, hy⟩ : ∃ y, b[k]? = some y := da (by omega)
  refine ax ?_
  refine K7 _ ?_
  refine yS fun _ K9 => ?_
  refine az ?_
  refine yS fun _ K10 => ?_
  refine fm [(0, none), (1, none), (2, none), (3, none), (4, none), (5, none), (6, none), (7, none), (8, none)] (fun i => [].contains i) (fun i => [].contains i) (fun i => [0, 1, 2, 4, 5, 6, 8].contains i) [] (by kernel_rfl) (by kernel_rfl) ?_
  refine xM rfl rfl rfl rfl rfl ?_
  refine xM rfl rfl rfl rfl rfl ?_
  try dsimp only [St.put]
  refine ae rfl rfl rfl rfl (bn rfl rfl rfl rfl (bp (by assumption)) (Enc.len _)) ?_
  try dsimp only [St.put]
  refine ah rfl rfl rfl rfl (bf rfl rfl) ?_
  refine xM rfl rfl rfl rfl rfl ?_
  refine xM rfl rfl rfl rfl rfl ?_
  try dsimp only [St.put]
  refine ae rfl rfl rfl rfl (bn rfl rfl rfl rfl (bp (by assumption)) (Enc.len _)) ?_
  try dsimp only [St.put]
  refine ah rfl rfl rfl rfl (bf rfl rfl) ?_
  refine ae rfl rfl rfl rfl (i0 rfl rfl rfl) ?_
  refine cc ?_
  dsimp only [St.put]
  refine K10 _ ?_
  refine ar rfl (fun hc => ?_) (fun hc => ?_)
  ·have hxy := ka hc
   refine yS fun _ K11 => ?_
   refine yR ?_
   refine yA rfl rfl ?_
   refine yN ?_
   dsimp only [St.put]
   refine K11 _ ?_
   refine aw ?_
   refine bg rfl (by constructor) zN zS ?_
   exact vb (by simp [pz hx hy hxy])
  have hxy := jd hc
  refine ax ?_
  refine K9 _ ?_
  refine yR ?_
  refine yM rfl rfl ?_
  refine aa rfl (bu rfl rfl rfl (by omega)) ?_
  refine yA rfl rfl ?_
  refine yN ?_
  dsimp only [St.put]
  exact ⟨k + 1, by omega, ⟨by omega, qk hI.2 hx (hxy ▸ hy)⟩, ⟨⟨rfl, rfl⟩, zF, zB, zN, zX⟩⟩
 replace hc := of_decide_eq_false hc
 refine cw ?_
 refine K5 _ ?_
 refine yS fun _ K12 => ?_
 refine yR ?_
 refine yA rfl rfl ?_
 refine yN ?_
 dsimp only [St.put]
 refine K12 _ ?_
 refine aw ?_
 refine bg rfl (by constructor) zN zS ?_
 exact vb (by
  have h1 := hI.2
  rw [ff (by omega), ff (by omega)] at h1
  simp [h1])
end Go.Proofs.YtgffhbbcpgdjjaaDoor
namespace Go.AB
open Go Go.RowKit
open Go.AB.Enc (cells)
open Go.PB (ay ak PlaceD bi bk bj bz av aq cy cx dp dm)
theorem z8 {t : ak} {x : av} {i : Nat} {q : PlaceD} (h : (dt t)[i]? = some q) : gh t x ((dt t).take (i + 1)) = gh t x ((dt t).take i) + bif fw t x q then 1 else 0 := by
 unfold gh
 rw [List.take_add_one, h, Option.toList_some, List.filter_append, List.length_append]
 cases hf : fw t x q <;> simp [hf]
def jq (x : av) (b : Bool) (q : PlaceD) : Bool := bif b then decide (q ∈ x.found) && decide (q ∈ x.well) else decide (q ∈ x.found) || decide (q ∈ x.well)
/-- what is found, among the first places -/
def nt (t : ak) (x : av) (b : Bool) (i : Nat) : List PlaceD := ((dt t).take i).filter (jq x b)
theorem uda {t : ak} {x : av} {b : Bool} {i : Nat} {q : PlaceD} (h : (dt t)[i]? = some q) : nt t x b (i + 1) = nt t x b i ++ bif jq x b q then [q] else [] := by
 unfold nt
 rw [List.take_add_one, h, Option.toList_some, List.filter_append]
 cases hf : jq x b q <;> simp [hf]
theorem ukt (t : ak) (x : av) (b : Bool) : nt t x b (dt t).length = bif b then fe t x else ei t x := by
 unfold nt
 rw [List.take_length]
 cases b <;> rfl
theorem uks (t : ak) (x : av) (b : Bool) (i : Nat) : (nt t x b i).length ≤ (dt t).length := by
 unfold nt
 have := List.length_filter_le (jq x b) ((dt t).take i)
 rw [List.length_take] at this
 omega
theorem bit_eq {s k : Nat} : (((s / 2 ^ k % 2 : Nat) : Int) = 1) ↔ s.testBit k = true := by
 rw [Nat.testBit_eq_decide_div_mod_eq, decide_eq_true_eq]
 omega
end Go.AB
namespace Go.Proofs.YtgffhbbcpgdjjaaDoor
set_option maxRecDepth 10000
open Go.RowKit Go.AB
open Go.AB.Enc (cells)
open Go.PB (ay ak PlaceD bi bk bj bz av aq cy cx dp dm)
theorem uhw (s n : Nat) (hs : s ≤ 1000) (hn : n ≤ 12) : Pure Tryd.prog 55 [.v (.int .i64 (s : Int)), .v (.int .i64 (n : Int))] (lst (d8 n s)) := by
 refine cz Tryd.func55 rfl (fun m => (cg _ _)) fun G nx => ?_
 simp only [Tryd.ntmps55, List.length_cons, List.length_nil, Nat.reduceAdd, Nat.reduceSub]
 refine ci fun hlt => ?_
 dsimp only at hlt
 refine yS fun _ K1 => ?_
 refine yR ?_
 refine yA rfl rfl ?_
 refine yN ?_
 dsimp only [St.put]
 refine K1 _ ?_
 refine yS fun _ K2 => ?_
 refine yR ?_
 refine yA rfl rfl ?_
 refine yN ?_
 dsimp only [St.put]
 refine K2 _ ?_
 refine pp 5 3 1 rfl (by decide) ?_
 dsimp only [List.set_cons_zero, List.set_cons_succ]
 refine yS fun _ K3 => ?_
 refine yS fun _ K4 => ?_
 refine yR ?_
 refine yA rfl rfl ?_
 refine yN ?_
 dsimp only [St.put]
 refine K4 _ ?_
 refine az ?_
 refine ck 7 ?_
 refine zQ ?_
 refine c6 ((ai G nx (.tip (d8 0 s).length 3 1))) zX ?_
 dsimp only
 refine c5 (X := Nat) (fun k => k ≤ n) (fun k => n - k) (fun k => [(5, .list ((d8 k s).map cells) (.tip nx)), (6, .v (.int .i64 (k : Int)))]) (fun k G' => (ai G nx (.tip (d8 k s).length 3 1))) 0 rfl ?_ ?_ ?_ ?_ ?_ ?_
 ·exact Nat.zero_le _
 ·exact zF
 ·exact zX
 ·rintro k hI
  exact zL
 ·rintro k hI
  exact zH
 rintro k hI
 dsimp only at hI ⊢
 refine yS fun _ K5 => ?_
 refine yS fun _ K6 => ?_
 refine yR ?_
 refine yM rfl rfl ?_
 refine yM rfl rfl ?_
 refine aa rfl (cj rfl rfl rfl) ?_
 refine yN ?_
 dsimp only [St.put]
 refine K6 _ ?_
 refine ar rfl (fun hc => ?_) (fun hc => ?_)
 ·replace hc := of_decide_eq_true hc
  have hml := p8 k s
  refine ax ?_
  refine K5 _ ?_
  refine yS fun _ K7 => ?_
  refine az ?_
  refine yS fun _ K8 => ?_
  refine yR ?_
  refine yM rfl rfl ?_
  refine yM rfl rfl ?_
  refine aa rfl (qq (m := s) (n := k) rfl rfl rfl (by show k ≤ 64; omega) (by show (s : Int) ≤ 9223372036854775807; omega) (by decide)) ?_
  refine aa rfl (qt (m := s / 2 ^ k) rfl rfl rfl (Nat.lt_of_le_of_lt (Nat.div_le_self _ _) (by show s < 2 ^ 64; omega)) (by decide)) ?_
  refine aa rfl (lv rfl rfl rfl) ?_
  refine yN ?_
  dsimp only [St.put]
  refine K8 _ ?_
  refine ar rfl (fun hc => ?_) (fun hc => ?_)
  ·have hb : s.testBit k = true := bit_eq.1 (of_decide_eq_true hc)
   refine yR ?_
   refine yM rfl rfl ?_
   refine yM rfl rfl ?_
   try dsimp only [St.put]
   refine aj rfl (fh rfl rfl rfl (by decide) (by decide) zR (by decide) ?_)
   try dsimp only [St.put]
   refine aj rfl (jh ([(k : Int)]) rfl rfl zG zE rfl rfl zA ?_ zA)
   refine yA rfl rfl ?_
   refine yN ?_
   dsimp only [St.put]
   refine K7 _ ?_
   refine yR ?_
   refine yM rfl rfl ?_
   refine aa rfl (bu rfl rfl rfl (by omega)) ?_
   refine yA rfl rfl ?_
   refine yN ?_
   dsimp only [St.put]
   have e := vh k s
   first
   | (have q : s.testBit k = true := hb
      rw [q, cond_true] at e
      rw [← e]
      exact ⟨k + 1, by omega, by omega, ⟨⟨rfl, rfl⟩, zF, zB, zN, zX⟩⟩)
   | (have q : s.testBit k = false := hb
      rw [q, cond_false, List.append_nil] at e
      rw [← e]
      exact ⟨k + 1, by omega, by omega, ⟨⟨rfl, rfl⟩, zF, zB, zN, zX⟩⟩)
  have hb : s.testBit k = false := by
   have := of_decide_eq_false hc
   rw [bit_eq, Bool.not_eq_true] at this
   exact this
  refine ax ?_
  refine K7 _ ?_
  refine yR ?_
  refine yM rfl rfl ?_
  refine aa rfl (bu rfl rfl rfl (by omega)) ?_
  refine yA rfl rfl ?_
  refine yN ?_
  dsimp only [St.put]
  have e := vh k s
  first
  | (have q : s.testBit k = true := hb
     rw [q, cond_true] at e
     rw [← e]
     exact ⟨k + 1, by omega, by omega, ⟨⟨rfl, rfl⟩, zF, zB, zN, zX⟩⟩)
  | (have q : s.testBit k = false := hb
     rw [q, cond_false, List.append_nil] at e
     rw [← e]
     exact ⟨k + 1, by omega, by omega, ⟨⟨rfl, rfl⟩, zF, zB, zN, zX⟩⟩)
 replace hc := of_decide_eq_false hc
 obtain rfl : k = n := by omega
 refine cw ?_
 refine K3 _ ?_
 refine yS fun _ K9 => ?_
 refine yR ?_
 refine yM rfl rfl ?_
 refine yA rfl rfl ?_
 refine yN ?_
 dsimp only [St.put]
 refine K9 _ ?_
 refine aw ?_
 refine lg rfl (fk (by constructor)) zN zS ?_
 exact zW
theorem uhr (p : aq) (j : Nat) (x : av) (ht : dv p.text = true) (hx : p.pages[j]? = some x) : Pure Tryd.prog 37 [val p, .v (.int .i64 (j : Int))] (.v (.int .i64 (f8 p.text x : Int))) := by
 refine cz Tryd.func37 rfl (fun m => .v) fun G nx => ?_
 simp only [Tryd.ntmps37, List.length_cons, List.length_nil, Nat.reduceAdd, Nat.reduceSub]
 refine ci fun hlt => ?_
 dsimp only at hlt
 have hal := n1 ht
 have hjl := (List.getElem?_eq_some_iff.1 hx).1
 refine yS fun _ K1 => ?_
 refine yR ?_
 try dsimp only [St.put]
 refine yB rfl rfl rfl ?_
 refine yA rfl rfl ?_
 refine yN ?_
 dsimp only [St.put]
 refine K1 _ ?_
 refine yS fun _ K2 => ?_
 refine yR ?_
 refine yA rfl rfl ?_
 refine yN ?_
 dsimp only [St.put]
 refine K2 _ ?_
 refine yS fun _ K3 => ?_
 refine yR ?_
 refine yF rfl rfl rfl rfl ?_
 try dsimp only [St.put]
 refine af rfl (c := fj p.text) (jc (cs := cells p) rfl rfl (show 1 ≤ 4 by decide)) ?_
 try dsimp only [St.put]
 refine aj rfl (bq rfl rfl rfl (ubb p.text ht) ?_)
 refine yA rfl rfl ?_
 refine yN ?_
 dsimp only [St.put]
 refine K3 _ ?_
 refine yS fun _ K4 => ?_
 refine yS fun _ K5 => ?_
 refine yR ?_
 refine yA rfl rfl ?_
 refine yN ?_
 dsimp only [St.put]
 refine K5 _ ?_
 refine az ?_
 refine ck 8 ?_
 refine zQ ?_
 refine c6 (G) zX ?_
 dsimp only
 refine c5 (X := Nat) (fun i => i ≤ (dt p.text).length) (fun i => (dt p.text).length - i) (fun i => [(5, .v (.int .i64 ((gh p.text x ((dt p.text).take i) : Nat) : Int))), (7, .v (.int .i64 (i : Int)))]) (fun i G' => G') 0 rfl ?_ ?_ (fun _ _ h => h) ?_ ?_ ?_
 ·exact Nat.zero_le _
 ·exact zF
 ·rintro i hI
  exact zL
 ·exact fun _ _ _ _ h => .inl h
 rintro i hI
 dsimp only at hI ⊢
 refine yS fun _ K6 => ?_
 refine yS fun _ K7 => ?_
 refine yR ?_
 refine yM rfl rfl ?_
 refine yM rfl rfl ?_
 refine aa rfl (ba rfl rfl (List.length_map _)) ?_
 refine aa rfl (cj rfl rfl rfl) ?_
 refine yN ?_
 dsimp only [St.put]
 refine K7 _ ?_
 refine ar rfl (fun hc => ?_) (fun hc => ?_)
 ·replace hc := of_decide_eq_true hc
  obtain ⟨q, hq⟩ : ∃ q, (dt p.text)[i]? = some q := da (by omega)
  have hqp := allQ_mem.1 (List.mem_of_getElem? hq)
  have hwl : gh p.text x ((dt p.text).take i) ≤ (dt p.text).length := by
   unfold gh
   have := List.length_filter_le (fw p.text x) ((dt p.text).take i)
   rw [List.length_take] at this
   omega
  refine ax ?_
  refine K6 _ ?_
  refine yS fun _ K8 => ?_
  refine az ?_
  refine yS fun _ K9 => ?_
  refine fm [(0, none), (1, none), (2, none), (3, none), (4, none), (5, none), (7, none), (8, none), (9, none), (10, none), (11, none), (12, none), (13, none), (14, none), (15, none), (16, none), (17, none), (18, none), (6, none), (19, none)] (fun i => [19].contains i) (fun i => [6, 19].contains i) (fun i => [0, 2, 3, 4, 7, 9, 10, 11, 13, 15, 16, 17].contains i) [] (by kernel_rfl) (by kernel_rfl) ?_
  refine ae rfl rfl rfl rfl (bw rfl rfl rfl) ?_
  try dsimp only [St.put]
  refine ah rfl rfl rfl rfl (c := fj p.text) (jc (cs := cells p) rfl rfl (show 1 ≤ 4 by decide)) ?_
  refine xM rfl rfl rfl rfl rfl ?_
  refine xM rfl rfl rfl rfl rfl ?_
  try dsimp only [St.put]
  refine ae rfl rfl rfl rfl (bn rfl rfl rfl rfl (bp (by assumption)) (Enc.len _)) ?_
  try dsimp only [St.put]
  refine ah rfl rfl rfl rfl (bv rfl rfl (Enc.len _)) ?_
  refine ae rfl rfl rfl rfl (bw rfl rfl rfl) ?_
  try dsimp only [St.put]
  refine ah rfl rfl rfl rfl (bf rfl rfl) ?_
  refine xM rfl rfl rfl rfl rfl ?_
  try dsimp only [St.put]
  refine ae rfl rfl rfl rfl (bn rfl rfl rfl rfl (bp (by assumption)) (Enc.len _)) ?_
  refine ae rfl rfl rfl rfl (bw rfl rfl rfl) ?_
  try dsimp only [St.put]
  refine ah rfl rfl rfl rfl (bf rfl rfl) ?_
  refine ae rfl rfl rfl rfl (bw rfl rfl rfl) ?_
  try dsimp only [St.put]
  refine ah rfl rfl rfl rfl (bf rfl rfl) ?_
  refine xM rfl rfl rfl rfl rfl ?_
  try dsimp only [St.put]
  refine ae rfl rfl rfl rfl (bn rfl rfl rfl rfl (bp (by assumption)) (Enc.len _)) ?_
  refine ae rfl rfl rfl rfl (bw rfl rfl rfl) ?_
  try dsimp only [St.put]
  refine ah rfl rfl rfl rfl (bf rfl rfl) ?_
  refine il ?_
  try dsimp only [St.put]
  refine ib rfl rfl rfl (bq rfl rfl rfl (xv p.text q ht hqp) ⟨zD, ?_⟩)
  try dsimp only [St.put]
  refine fy rfl rfl rfl rfl (bq rfl rfl rfl (pt _ _ _) ?_)
  refine ij ?_
  dsimp only [St.put]
  refine K9 _ ?_
  refine ar rfl (fun hc => ?_) (fun hc => ?_)
  ·have hb : fw p.text x q = true := hc
   refine yR ?_
   refine yM rfl rfl ?_
   refine aa rfl (bu rfl rfl rfl (by omega)) ?_
   refine yA rfl rfl ?_
   refine yN ?_
   dsimp only [St.put]
   refine K8 _ ?_
   refine yR ?_
   refine yM rfl rfl ?_
   refine aa rfl (bu rfl rfl rfl (by omega)) ?_
   refine yA rfl rfl ?_
   refine yN ?_
   dsimp only [St.put]
   have e := z8 (x := x) hq
   first
   | (have z : fw p.text x q = true := hb
      rw [z, cond_true] at e
      rw [show ((gh p.text x ((dt p.text).take i) : Nat) : Int) + 1 = ((gh p.text x ((dt p.text).take (i + 1)) : Nat) : Int) by rw [e]; rfl]
      exact ⟨i + 1, by omega, by omega, ⟨⟨rfl, rfl⟩, zF, zB, zN, zX⟩⟩)
   | (have z : fw p.text x q = false := hb
      rw [show gh p.text x ((dt p.text).take i) = gh p.text x ((dt p.text).take (i + 1)) by rw [e, z]; rfl]
      exact ⟨i + 1, by omega, by omega, ⟨⟨rfl, rfl⟩, zF, zB, zN, zX⟩⟩)
  have hb : fw p.text x q = false := hc
  refine ax ?_
  refine K8 _ ?_
  refine yR ?_
  refine yM rfl rfl ?_
  refine aa rfl (bu rfl rfl rfl (by omega)) ?_
  refine yA rfl rfl ?_
  refine yN ?_
  dsimp only [St.put]
  have e := z8 (x := x) hq
  first
  | (have z : fw p.text x q = true := hb
     rw [z, cond_true] at e
     rw [show ((gh p.text x ((dt p.text).take i) : Nat) : Int) + 1 = ((gh p.text x ((dt p.text).take (i + 1)) : Nat) : Int) by rw [e]; rfl]
     exact ⟨i + 1, by omega, by omega, ⟨⟨rfl, rfl⟩, zF, zB, zN, zX⟩⟩)
  | (have z : fw p.text x q = false := hb
     rw [show gh p.text x ((dt p.text).take i) = gh p.text x ((dt p.text).take (i + 1)) by rw [e, z]; rfl]
     exact ⟨i + 1, by omega, by omega, ⟨⟨rfl, rfl⟩, zF, zB, zN, zX⟩⟩)
 replace hc := of_decide_eq_false hc
 obtain rfl : i = (dt p.text).length := by omega
 refine cw ?_
 refine K4 _ ?_
 refine yS fun _ K10 => ?_
 refine yR ?_
 refine yM rfl rfl ?_
 refine yA rfl rfl ?_
 refine yN ?_
 dsimp only [St.put]
 refine K10 _ ?_
 refine aw ?_
 refine bg rfl (by constructor) zN zS ?_
 exact vi (by rw [List.take_length]; rfl)
theorem uhz (p : aq) (j : Nat) (x : av) (b : Bool) (ht : dv p.text = true) (hx : p.pages[j]? = some x) (hf : x.found.length ≤ 1000) (hw : x.well.length ≤ 1000) : Pure Tryd.prog 38 [val p, .v (.int .i64 (j : Int)), .v (.bool b)] (lst (bif b then fe p.text x else ei p.text x)) := by
 refine cz Tryd.func38 rfl (fun m => (cg _ _)) fun G nx => ?_
 simp only [Tryd.ntmps38, List.length_cons, List.length_nil, Nat.reduceAdd, Nat.reduceSub]
 refine ci fun hlt => ?_
 dsimp only at hlt
 have hal := n1 ht
 have hjl := (List.getElem?_eq_some_iff.1 hx).1
 refine yS fun _ K1 => ?_
 refine yR ?_
 try dsimp only [St.put]
 refine yB rfl rfl rfl ?_
 refine yA rfl rfl ?_
 refine yN ?_
 dsimp only [St.put]
 refine K1 _ ?_
 refine yS fun _ K2 => ?_
 refine yR ?_
 refine yA rfl rfl ?_
 refine yN ?_
 dsimp only [St.put]
 refine K2 _ ?_
 refine pp 7 54 3 rfl (by decide) ?_
 dsimp only [List.set_cons_zero, List.set_cons_succ]
 refine yS fun _ K3 => ?_
 refine yR ?_
 refine yF rfl rfl rfl rfl ?_
 refine yL rfl rfl rfl ?_
 refine yM rfl rfl ?_
 refine aa rfl (bn rfl rfl rfl rfl (bp (by assumption)) (Enc.len _)) ?_
 refine yE rfl rfl rfl ?_
 try dsimp only [St.put]
 refine aj rfl (eb rfl ?_)
 try dsimp only [St.put]
 refine aj rfl (dj rfl rfl rfl zG rfl rfl (by rfl) ?_)
 refine yN ?_
 dsimp only [St.put]
 refine K3 _ ?_
 refine gt (i := 8) rfl zG zC ?_
 dsimp only
 refine yS fun _ K4 => ?_
 refine yR ?_
 refine yF rfl rfl rfl rfl ?_
 try dsimp only [St.put]
 refine af rfl (c := fj p.text) (jc (cs := cells p) rfl rfl (show 1 ≤ 4 by decide)) ?_
 try dsimp only [St.put]
 refine aj rfl (bq rfl rfl rfl (ubb p.text ht) ?_)
 refine yA rfl rfl ?_
 refine yN ?_
 dsimp only [St.put]
 refine K4 _ ?_
 refine yS fun _ K5 => ?_
 refine yS fun _ K6 => ?_
 refine yR ?_
 refine yA rfl rfl ?_
 refine yN ?_
 dsimp only [St.put]
 refine K6 _ ?_
 refine az ?_
 refine ck 13 ?_
 refine zQ ?_
 refine c6 ((ai G nx (.tip (nt p.text x b 0).length 54 3))) zX ?_
 dsimp only
 refine c5 (X := Nat) (fun i => i ≤ (dt p.text).length) (fun i => (dt p.text).length - i) (fun i => [(7, .list ((nt p.text x b i).map cells) (.tip nx)), (10, .v (.int .i64 (i : Int))), (11, .any), (12, .any)]) (fun i G' => (ai G nx (.tip (nt p.text x b i).length 54 3))) 0 rfl ?_ ?_ ?_ ?_ ?_ ?_
 ·exact Nat.zero_le _
 ·exact zF
 ·exact zX
 ·rintro i hI
  exact zL
 ·rintro i hI
  exact zH
 rintro i hI
 dsimp only at hI ⊢
 refine yS fun _ K7 => ?_
 refine yS fun _ K8 => ?_
 refine yR ?_
 refine yM rfl rfl ?_
 refine yM rfl rfl ?_
 refine aa rfl (ba rfl rfl (List.length_map _)) ?_
 refine aa rfl (cj rfl rfl rfl) ?_
 refine yN ?_
 dsimp only [St.put]
 refine K8 _ ?_
 refine ar rfl (fun hc => ?_) (fun hc => ?_)
 ·replace hc := of_decide_eq_true hc
  obtain ⟨q, hq⟩ : ∃ q, (dt p.text)[i]? = some q := da (by omega)
  have hfl := uks p.text x b i
  refine ax ?_
  refine K7 _ ?_
  refine yS fun _ K9 => ?_
  refine az ?_
  refine yS fun _ K10 => ?_
  refine fm [(0, none), (1, none), (2, none), (3, none), (4, none), (5, none), (7, none), (8, none), (9, none), (10, none), (11, none), (12, none), (6, none), (13, none), (14, none), (15, none)] (fun i => [13].contains i) (fun i => [6, 13].contains i) (fun i => [0, 2, 3, 4, 7, 9, 10, 11, 14, 15].contains i) [] (by kernel_rfl) (by kernel_rfl) ?_
  refine ae rfl rfl rfl rfl (bw rfl rfl rfl) ?_
  try dsimp only [St.put]
  refine ah rfl rfl rfl rfl (bf rfl rfl) ?_
  refine xM rfl rfl rfl rfl rfl ?_
  refine xM rfl rfl rfl rfl rfl ?_
  try dsimp only [St.put]
  refine ae rfl rfl rfl rfl (bn rfl rfl rfl rfl (bp (by assumption)) (Enc.len _)) ?_
  try dsimp only [St.put]
  refine ah rfl rfl rfl rfl (bv rfl rfl (Enc.len _)) ?_
  refine ae rfl rfl rfl rfl (bw rfl rfl rfl) ?_
  try dsimp only [St.put]
  refine ah rfl rfl rfl rfl (bf rfl rfl) ?_
  refine xM rfl rfl rfl rfl rfl ?_
  refine xM rfl rfl rfl rfl rfl ?_
  try dsimp only [St.put]
  refine ae rfl rfl rfl rfl (bn rfl rfl rfl rfl (bp (by assumption)) (Enc.len _)) ?_
  try dsimp only [St.put]
  refine ah rfl rfl rfl rfl (bv rfl rfl (Enc.len _)) ?_
  refine il ?_
  try dsimp only [St.put]
  refine ib rfl rfl rfl (bq rfl rfl rfl (ubf x.found q hf) ⟨zD, ?_⟩)
  try dsimp only [St.put]
  refine fy rfl rfl rfl rfl (bq rfl rfl rfl (ubf x.well q hw) ?_)
  refine ep rfl rfl rfl rfl (du rfl (by constructor)) ?_
  refine ep rfl rfl rfl rfl (du rfl (by constructor)) ?_
  refine ij ?_
  dsimp only [St.put]
  refine K10 _ ?_
  refine ck 13 ?_
  refine zQ ?_
  refine km (X := Bool) (fun d => jq x b q = d) (fun d => [(54, .v (.bool d))]) (fun d G' => G') rfl ?_ (fun _ _ _ _ h => .inl h) ?_ ?_
  ·rintro d hI
   exact zL
  ·refine yR ?_
   refine yM rfl rfl ?_
   refine yM rfl rfl ?_
   refine eo (fun hs => ?_) (fun hs => ?_)
   ·have s1 := hs
    refine yM rfl rfl ?_
    refine aa rfl (cm rfl rfl (by constructor)) ?_
    refine eo (fun hs => ?_) (fun hs => ?_)
    ·have s3 := hs
     refine yM rfl rfl ?_
     refine yK rfl ?_
     refine yK rfl ?_
     refine yK rfl ?_
     refine yK rfl ?_
     refine yK rfl ?_
     refine yK rfl ?_
     refine yK rfl ?_
     refine yK rfl ?_
     refine aa rfl (cm rfl rfl (by constructor)) ?_
     refine yN ?_
     dsimp only [St.put]
     refine ⟨_, ?_, ⟨⟨rfl, rfl⟩, zF, zB, zN, zX⟩⟩
     cases b <;> simp_all [jq]
    have s3 := hs
    refine yM rfl rfl ?_
    refine yM rfl rfl ?_
    refine aa rfl (ef rfl rfl) ?_
    refine eo (fun hs => ?_) (fun hs => ?_)
    ·have s6 := hs
     refine yM rfl rfl ?_
     refine yM rfl rfl ?_
     refine eo (fun hs => ?_) (fun hs => ?_)
     ·have s8 := hs
      refine yM rfl rfl ?_
      refine yK rfl ?_
      refine aa rfl (cm rfl rfl (by constructor)) ?_
      refine aa rfl (cm rfl rfl (by constructor)) ?_
      refine aa rfl (ce rfl rfl (by constructor)) ?_
      refine yN ?_
      dsimp only [St.put]
      refine ⟨_, ?_, ⟨⟨rfl, rfl⟩, zF, zB, zN, zX⟩⟩
      cases b <;> simp_all [jq]
     have s8 := hs
     refine yM rfl rfl ?_
     refine yM rfl rfl ?_
     refine aa rfl (ce rfl rfl (by constructor)) ?_
     refine aa rfl (cm rfl rfl (by constructor)) ?_
     refine aa rfl (ce rfl rfl (by constructor)) ?_
     refine yN ?_
     dsimp only [St.put]
     refine ⟨_, ?_, ⟨⟨rfl, rfl⟩, zF, zB, zN, zX⟩⟩
     cases b <;> simp_all [jq]
    have s6 := hs
    refine yM rfl rfl ?_
    refine yK rfl ?_
    refine yK rfl ?_
    refine yK rfl ?_
    refine yK rfl ?_
    refine aa rfl (ce rfl rfl (by constructor)) ?_
    refine aa rfl (ce rfl rfl (by constructor)) ?_
    refine yN ?_
    dsimp only [St.put]
    refine ⟨_, ?_, ⟨⟨rfl, rfl⟩, zF, zB, zN, zX⟩⟩
    cases b <;> simp_all [jq]
   have s1 := hs
   refine yK rfl ?_
   refine aa rfl (ce rfl rfl (by constructor)) ?_
   refine yM rfl rfl ?_
   refine yM rfl rfl ?_
   refine aa rfl (ef rfl rfl) ?_
   refine eo (fun hs => ?_) (fun hs => ?_)
   ·have s6 := hs
    refine yM rfl rfl ?_
    refine yM rfl rfl ?_
    refine eo (fun hs => ?_) (fun hs => ?_)
    ·have s8 := hs
     refine yM rfl rfl ?_
     refine yK rfl ?_
     refine aa rfl (cm rfl rfl (by constructor)) ?_
     refine aa rfl (cm rfl rfl (by constructor)) ?_
     refine aa rfl (ce rfl rfl (by constructor)) ?_
     refine yN ?_
     dsimp only [St.put]
     refine ⟨_, ?_, ⟨⟨rfl, rfl⟩, zF, zB, zN, zX⟩⟩
     cases b <;> simp_all [jq]
    have s8 := hs
    refine yM rfl rfl ?_
    refine yM rfl rfl ?_
    refine aa rfl (ce rfl rfl (by constructor)) ?_
    refine aa rfl (cm rfl rfl (by constructor)) ?_
    refine aa rfl (ce rfl rfl (by constructor)) ?_
    refine yN ?_
    dsimp only [St.put]
    refine ⟨_, ?_, ⟨⟨rfl, rfl⟩, zF, zB, zN, zX⟩⟩
    cases b <;> simp_all [jq]
   have s6 := hs
   refine yM rfl rfl ?_
   refine yK rfl ?_
   refine yK rfl ?_
   refine yK rfl ?_
   refine yK rfl ?_
   refine aa rfl (ce rfl rfl (by constructor)) ?_
   refine aa rfl (ce rfl rfl (by constructor)) ?_
   refine yN ?_
   dsimp only [St.put]
   refine ⟨_, ?_, ⟨⟨rfl, rfl⟩, zF, zB, zN, zX⟩⟩
   cases b <;> simp_all [jq]
  rintro d hst
  dsimp only at hst ⊢
  refine ar rfl (fun hc => ?_) (fun hc => ?_)
  ·have hb : jq x b q = true := hst.trans hc
   refine yR ?_
   refine yM rfl rfl ?_
   refine yM rfl rfl ?_
   refine yM rfl rfl ?_
   refine aa rfl (bn rfl rfl rfl rfl (bp (by assumption)) (Enc.len _)) ?_
   refine yE rfl rfl rfl ?_
   try dsimp only [St.put]
   refine aj rfl (fh rfl rfl rfl (by decide) (by decide) zR (by decide) ?_)
   try dsimp only [St.put]
   refine aj rfl (jh ([q]) rfl rfl zG zE rfl rfl zA ?_ zA)
   refine yA rfl rfl ?_
   refine yN ?_
   dsimp only [St.put]
   refine K9 _ ?_
   refine yR ?_
   refine yM rfl rfl ?_
   refine aa rfl (bu rfl rfl rfl (by omega)) ?_
   refine yA rfl rfl ?_
   refine yN ?_
   dsimp only [St.put]
   have e := uda (x := x) (b := b) hq
   first
   | (have z : jq x b q = true := hb
      rw [z, cond_true] at e
      rw [← e]
      exact ⟨i + 1, by omega, by omega, ⟨⟨rfl, rfl⟩, zF, zB, zN, zX⟩⟩)
   | (have z : jq x b q = false := hb
      rw [z, cond_false, List.append_nil] at e
      rw [← e]
      exact ⟨i + 1, by omega, by omega, ⟨⟨rfl, rfl⟩, zF, zB, zN, zX⟩⟩)
  have hb : jq x b q = false := hst.trans hc
  refine ax ?_
  refine K9 _ ?_
  refine yR ?_
  refine yM rfl rfl ?_
  refine aa rfl (bu rfl rfl rfl (by omega)) ?_
  refine yA rfl rfl ?_
  refine yN ?_
  dsimp only [St.put]
  have e := uda (x := x) (b := b) hq
  first
  | (have z : jq x b q = true := hb
     rw [z, cond_true] at e
     rw [← e]
     exact ⟨i + 1, by omega, by omega, ⟨⟨rfl, rfl⟩, zF, zB, zN, zX⟩⟩)
  | (have z : jq x b q = false := hb
     rw [z, cond_false, List.append_nil] at e
     rw [← e]
     exact ⟨i + 1, by omega, by omega, ⟨⟨rfl, rfl⟩, zF, zB, zN, zX⟩⟩)
 replace hc := of_decide_eq_false hc
 obtain rfl : i = (dt p.text).length := by omega
 have hfin := ukt p.text x b
 refine cw ?_
 refine K5 _ ?_
 refine yS fun _ K12 => ?_
 refine yR ?_
 refine yM rfl rfl ?_
 refine yA rfl rfl ?_
 refine yN ?_
 dsimp only [St.put]
 refine K12 _ ?_
 refine aw ?_
 refine lg rfl (fk (by constructor)) zN zS ?_
 rw [← hfin]
 exact zW
end Go.Proofs.YtgffhbbcpgdjjaaDoor
namespace Go.AB
open Go Go.RowKit
open Go.AB.Enc (cells)
open Go.PB (ay ak PlaceD bi bk bj bz av aq cy cx dp dm)
theorem ue {l : List av} {g : av → Nat} (k : Nat) : cp (l.take k) g ≤ cp l g := by
 have h : cp l g = cp (l.take k) g + cp (l.drop k) g := by
  unfold cp
  rw [← List.sum_append, ← List.map_append, List.take_append_drop]
 omega
theorem ucg {p : aq} {b : Bool} {i : Nat} {r : bz} (h : (eh p b)[i]? = some r) : lz p b i = r.miss := by unfold lz; rw [h]
theorem y4 (R : Nat → Int) (S : Nat → Bool) (k : Nat) : fR R S (k + 1) = fR R S k + bif S k then R k else 0 := rfl
theorem wb (p : aq) (C : Nat → Int) (S : Nat → Bool) (k : Nat) : fC p C S (k + 1) = fC p C S k + bif (eu p).hit S k then 0 else C k := rfl
end Go.AB
namespace Go.Proofs.YtgffhbbcpgdjjaaDoor
set_option maxRecDepth 10000
open Go.RowKit Go.AB
open Go.AB.Enc (cells)
open Go.PB (ay ak PlaceD bi bk bj bz av aq cy cx dp dm)
theorem uht (p : aq) (j : Nat) (x : av) (b : Bool) (i : Int) (hx : p.pages[j]? = some x) : Pure Tryd.prog 76 [val p, .v (.int .i64 (j : Int)), .v (.bool b), .v (.int .i64 i)] (.v (.bool (decide (et b x = i)))) := by
 refine cz Tryd.func76 rfl (fun m => .v) fun G nx => ?_
 simp only [Tryd.ntmps76, List.length_cons, List.length_nil, Nat.reduceAdd, Nat.reduceSub]
 refine ci fun hlt => ?_
 dsimp only at hlt
 have hjl := (List.getElem?_eq_some_iff.1 hx).1
 refine yS fun _ K1 => ?_
 refine yR ?_
 try dsimp only [St.put]
 refine yB rfl rfl rfl ?_
 refine yA rfl rfl ?_
 refine yN ?_
 dsimp only [St.put]
 refine K1 _ ?_
 refine yS fun _ K2 => ?_
 refine yS fun _ K3 => ?_
 refine yR ?_
 refine yM rfl rfl ?_
 refine yN ?_
 dsimp only [St.put]
 refine K3 _ ?_
 refine ar rfl (fun hc => ?_) (fun hc => ?_)
 ·have hb : b = true := hc
  refine yS fun _ K4 => ?_
  refine yR ?_
  refine yF rfl rfl rfl rfl ?_
  refine yL rfl rfl rfl ?_
  refine yM rfl rfl ?_
  refine aa rfl (bn rfl rfl rfl rfl (bp (by assumption)) (Enc.len _)) ?_
  refine yF rfl rfl rfl rfl ?_
  refine yL rfl rfl rfl ?_
  refine yM rfl rfl ?_
  refine aa rfl (lv rfl rfl rfl) ?_
  refine yA rfl rfl ?_
  refine yN ?_
  dsimp only [St.put]
  refine K4 _ ?_
  refine aw ?_
  refine bg rfl (by constructor) zN zS ?_
  exact vb (by rw [hb]; rfl)
 have hb : b = false := hc
 refine ax ?_
 refine K2 _ ?_
 refine yS fun _ K5 => ?_
 refine yR ?_
 refine yF rfl rfl rfl rfl ?_
 refine yL rfl rfl rfl ?_
 refine yM rfl rfl ?_
 refine aa rfl (bn rfl rfl rfl rfl (bp (by assumption)) (Enc.len _)) ?_
 refine yF rfl rfl rfl rfl ?_
 refine yL rfl rfl rfl ?_
 refine yM rfl rfl ?_
 refine aa rfl (lv rfl rfl rfl) ?_
 refine yA rfl rfl ?_
 refine yN ?_
 dsimp only [St.put]
 refine K5 _ ?_
 refine aw ?_
 refine bg rfl (by constructor) zN zS ?_
 exact vb (by rw [hb]; rfl)
theorem ubg (p : aq) (j : Nat) (x : av) (ht : dv p.text = true) (hx : p.pages[j]? = some x) (hf : x.found.length ≤ 1000) (hw : x.well.length ≤ 1000) : Pure Tryd.prog 38 [val p, .v (.int .i64 (j : Int)), .v (.bool false)] (lst (ei p.text x)) := uhz p j x false ht hx hf hw
set_option maxHeartbeats 1000000 in
theorem uh0 (p : aq) (b : Bool) (i : Nat) (h : f5 p) (hi : i < (eh p b).length) : Pure Tryd.prog 45 [val p, .v (.bool b), .v (.int .i64 (i : Int))] (.tup [.v (.int .i64 (mh p b i)), .v (.int .i64 (jz p b i))]) := by
 refine cz Tryd.func45 rfl (fun m => .tup (dd .v (dd .v eg))) fun G nx => ?_
 simp only [Tryd.ntmps45, List.length_cons, List.length_nil, Nat.reduceAdd, Nat.reduceSub]
 refine ci fun hlt => ?_
 dsimp only at hlt
 have hown := x4 h b (i : Int)
 have hrd := xu h b (i : Int)
 have hal := n1 h.text
 have hnp := h.np
 have hmb := yg h b i
 obtain ⟨r, hr⟩ : ∃ r, (eh p b)[i]? = some r := da hi
 have hmr := ucg hr
 refine yS fun _ K1 => ?_
 refine yR ?_
 try dsimp only [St.put]
 refine yB rfl rfl rfl ?_
 refine yA rfl rfl ?_
 refine yA rfl rfl ?_
 refine yN ?_
 dsimp only [St.put]
 refine K1 _ ?_
 refine yS fun _ K2 => ?_
 refine yR ?_
 refine yA rfl rfl ?_
 refine yA rfl rfl ?_
 refine yN ?_
 dsimp only [St.put]
 refine K2 _ ?_
 refine yS fun _ K3 => ?_
 refine yS fun _ K4 => ?_
 refine yR ?_
 refine yA rfl rfl ?_
 refine yN ?_
 dsimp only [St.put]
 refine K4 _ ?_
 refine az ?_
 refine ck 13 ?_
 refine zQ ?_
 refine c6 (G) zX ?_
 dsimp only
 refine c5 (X := Nat) (fun k => k ≤ p.pages.length) (fun k => p.pages.length - k) (fun k => [(8, .v (.int .i64 ((cp (p.pages.take k) (dq b (i : Int)) : Nat) : Int))), (9, .v (.int .i64 ((cp (p.pages.take k) (ed p.text b (i : Int)) : Nat) : Int))), (10, .v (.int .i64 (k : Int)))]) (fun k G' => G') 0 rfl ?_ ?_ (fun _ _ h => h) ?_ ?_ ?_
 ·exact Nat.zero_le _
 ·exact zF
 ·rintro k hI
  exact zL
 ·exact fun _ _ _ _ h => .inl h
 rintro k hI
 dsimp only at hI ⊢
 refine yS fun _ K5 => ?_
 refine yS fun _ K6 => ?_
 refine yR ?_
 refine yM rfl rfl ?_
 refine yF rfl rfl rfl rfl ?_
 refine yL rfl rfl rfl ?_
 refine aa rfl (ba rfl rfl (List.length_map _)) ?_
 refine aa rfl (cj rfl rfl rfl) ?_
 refine yN ?_
 dsimp only [St.put]
 refine K6 _ ?_
 refine ar rfl (fun hc => ?_) (fun hc => ?_)
 ·replace hc := of_decide_eq_true hc
  obtain ⟨x, hx⟩ : ∃ x, p.pages[k]? = some x := da (by omega)
  have hp := pageB_true.1 (h.page k x hx)
  have hfl := nw hp.found
  have hwl := nw hp.well
  have hgl := rb p.text x
  have ht1 := ue (l := p.pages) (g := dq b (i : Int)) k
  have ht2 := ue (l := p.pages) (g := ed p.text b (i : Int)) k
  refine ax ?_
  refine K5 _ ?_
  refine yS fun _ K7 => ?_
  refine az ?_
  refine yS fun _ K8 => ?_
  refine yS fun _ K9 => ?_
  refine yR ?_
  refine yE rfl rfl rfl ?_
  refine yM rfl rfl ?_
  refine yM rfl rfl ?_
  refine yM rfl rfl ?_
  try dsimp only [St.put]
  refine aj rfl (bq rfl rfl rfl (uht p k x b (i : Int) hx) ?_)
  refine aa rfl (ef rfl rfl) ?_
  refine yN ?_
  dsimp only [St.put]
  refine K9 _ ?_
  refine ar rfl (fun hc => ?_) (fun hc => ?_)
  ·have hno : ¬ et b x = (i : Int) := by simpa using hc
   refine cw ?_
   refine K7 _ ?_
   refine yR ?_
   refine yM rfl rfl ?_
   refine aa rfl (bu rfl rfl rfl (by omega)) ?_
   refine yA rfl rfl ?_
   refine yN ?_
   dsimp only [St.put]
   have e1 := ml (g := dq b (i : Int)) hx
   have e2 := ml (g := ed p.text b (i : Int)) hx
   first
   | (have z : ¬ et b x = (i : Int) := hno
      rw [show cp (p.pages.take k) (dq b (i : Int)) = cp (p.pages.take (k + 1)) (dq b (i : Int)) by rw [e1]; unfold dq; rw [decide_eq_false z]; rfl, show cp (p.pages.take k) (ed p.text b (i : Int)) = cp (p.pages.take (k + 1)) (ed p.text b (i : Int)) by rw [e2]; unfold ed; rw [decide_eq_false z]; rfl]
      exact ⟨k + 1, by omega, by omega, ⟨⟨rfl, rfl⟩, zF, zB, zN, zX⟩⟩)
   | (have z : b = true := hb
      rw [show ((cp (p.pages.take k) (dq b (i : Int)) : Nat) : Int) + (x.well.length : Int) = ((cp (p.pages.take (k + 1)) (dq b (i : Int)) : Nat) : Int) by rw [e1]; unfold dq; rw [decide_eq_true hyes, cond_true, z]; rfl, show ((cp (p.pages.take k) (ed p.text b (i : Int)) : Nat) : Int) + ((ei p.text x).length : Int) = ((cp (p.pages.take (k + 1)) (ed p.text b (i : Int)) : Nat) : Int) by rw [e2]; unfold ed; rw [decide_eq_true hyes, cond_true]; rfl]
      exact ⟨k + 1, by omega, by omega, ⟨⟨rfl, rfl⟩, zF, zB, zN, zX⟩⟩)
   | (have z : b = false := hb
      rw [show ((cp (p.pages.take k) (dq b (i : Int)) : Nat) : Int) + (x.found.length : Int) = ((cp (p.pages.take (k + 1)) (dq b (i : Int)) : Nat) : Int) by rw [e1]; unfold dq; rw [decide_eq_true hyes, cond_true, z]; rfl, show ((cp (p.pages.take k) (ed p.text b (i : Int)) : Nat) : Int) + ((ei p.text x).length : Int) = ((cp (p.pages.take (k + 1)) (ed p.text b (i : Int)) : Nat) : Int) by rw [e2]; unfold ed; rw [decide_eq_true hyes, cond_true]; rfl]
      exact ⟨k + 1, by omega, by omega, ⟨⟨rfl, rfl⟩, zF, zB, zN, zX⟩⟩)
  have hyes : et b x = (i : Int) := by simpa using hc
  refine ax ?_
  refine K8 _ ?_
  refine yS fun _ K10 => ?_
  refine yR ?_
  refine yM rfl rfl ?_
  refine yE rfl rfl rfl ?_
  refine yM rfl rfl ?_
  try dsimp only [St.put]
  refine aj rfl (bq rfl rfl rfl (ubg p k x h.text hx (by omega) (by omega)) ?_)
  refine aa rfl (ba rfl rfl (List.length_map _)) ?_
  refine aa rfl (bu rfl rfl rfl (by omega)) ?_
  refine yA rfl rfl ?_
  refine yN ?_
  dsimp only [St.put]
  refine K10 _ ?_
  refine yS fun _ K11 => ?_
  refine yR ?_
  refine yM rfl rfl ?_
  refine yN ?_
  dsimp only [St.put]
  refine K11 _ ?_
  refine ar rfl (fun hc => ?_) (fun hc => ?_)
  ·have hb : b = true := hc
   refine yR ?_
   refine yM rfl rfl ?_
   refine yF rfl rfl rfl rfl ?_
   refine yL rfl rfl rfl ?_
   refine yM rfl rfl ?_
   refine aa rfl (bn rfl rfl rfl rfl (bp (by assumption)) (Enc.len _)) ?_
   refine yF rfl rfl rfl rfl ?_
   refine yL rfl rfl rfl ?_
   refine aa rfl (ba rfl rfl (List.length_map _)) ?_
   refine aa rfl (bu rfl rfl rfl (by omega)) ?_
   refine yA rfl rfl ?_
   refine yN ?_
   dsimp only [St.put]
   refine K7 _ ?_
   refine yR ?_
   refine yM rfl rfl ?_
   refine aa rfl (bu rfl rfl rfl (by omega)) ?_
   refine yA rfl rfl ?_
   refine yN ?_
   dsimp only [St.put]
   have e1 := ml (g := dq b (i : Int)) hx
   have e2 := ml (g := ed p.text b (i : Int)) hx
   first
   | (have z : ¬ et b x = (i : Int) := hno
      rw [show cp (p.pages.take k) (dq b (i : Int)) = cp (p.pages.take (k + 1)) (dq b (i : Int)) by rw [e1]; unfold dq; rw [decide_eq_false z]; rfl, show cp (p.pages.take k) (ed p.text b (i : Int)) = cp (p.pages.take (k + 1)) (ed p.text b (i : Int)) by rw [e2]; unfold ed; rw [decide_eq_false z]; rfl]
      exact ⟨k + 1, by omega, by omega, ⟨⟨rfl, rfl⟩, zF, zB, zN, zX⟩⟩)
   | (have z : b = true := hb
      rw [show ((cp (p.pages.take k) (dq b (i : Int)) : Nat) : Int) + (x.well.length : Int) = ((cp (p.pages.take (k + 1)) (dq b (i : Int)) : Nat) : Int) by rw [e1]; unfold dq; rw [decide_eq_true hyes, cond_true, z]; rfl, show ((cp (p.pages.take k) (ed p.text b (i : Int)) : Nat) : Int) + ((ei p.text x).length : Int) = ((cp (p.pages.take (k + 1)) (ed p.text b (i : Int)) : Nat) : Int) by rw [e2]; unfold ed; rw [decide_eq_true hyes, cond_true]; rfl]
      exact ⟨k + 1, by omega, by omega, ⟨⟨rfl, rfl⟩, zF, zB, zN, zX⟩⟩)
   | (have z : b = false := hb
      rw [show ((cp (p.pages.take k) (dq b (i : Int)) : Nat) : Int) + (x.found.length : Int) = ((cp (p.pages.take (k + 1)) (dq b (i : Int)) : Nat) : Int) by rw [e1]; unfold dq; rw [decide_eq_true hyes, cond_true, z]; rfl, show ((cp (p.pages.take k) (ed p.text b (i : Int)) : Nat) : Int) + ((ei p.text x).length : Int) = ((cp (p.pages.take (k + 1)) (ed p.text b (i : Int)) : Nat) : Int) by rw [e2]; unfold ed; rw [decide_eq_true hyes, cond_true]; rfl]
      exact ⟨k + 1, by omega, by omega, ⟨⟨rfl, rfl⟩, zF, zB, zN, zX⟩⟩)
  have hb : b = false := hc
  refine yR ?_
  refine yM rfl rfl ?_
  refine yF rfl rfl rfl rfl ?_
  refine yL rfl rfl rfl ?_
  refine yM rfl rfl ?_
  refine aa rfl (bn rfl rfl rfl rfl (bp (by assumption)) (Enc.len _)) ?_
  refine yF rfl rfl rfl rfl ?_
  refine yL rfl rfl rfl ?_
  refine aa rfl (ba rfl rfl (List.length_map _)) ?_
  refine aa rfl (bu rfl rfl rfl (by omega)) ?_
  refine yA rfl rfl ?_
  refine yN ?_
  dsimp only [St.put]
  refine K7 _ ?_
  refine yR ?_
  refine yM rfl rfl ?_
  refine aa rfl (bu rfl rfl rfl (by omega)) ?_
  refine yA rfl rfl ?_
  refine yN ?_
  dsimp only [St.put]
  have e1 := ml (g := dq b (i : Int)) hx
  have e2 := ml (g := ed p.text b (i : Int)) hx
  first
  | (have z : ¬ et b x = (i : Int) := hno
     rw [show cp (p.pages.take k) (dq b (i : Int)) = cp (p.pages.take (k + 1)) (dq b (i : Int)) by rw [e1]; unfold dq; rw [decide_eq_false z]; rfl, show cp (p.pages.take k) (ed p.text b (i : Int)) = cp (p.pages.take (k + 1)) (ed p.text b (i : Int)) by rw [e2]; unfold ed; rw [decide_eq_false z]; rfl]
     exact ⟨k + 1, by omega, by omega, ⟨⟨rfl, rfl⟩, zF, zB, zN, zX⟩⟩)
  | (have z : b = true := hb
     rw [show ((cp (p.pages.take k) (dq b (i : Int)) : Nat) : Int) + (x.well.length : Int) = ((cp (p.pages.take (k + 1)) (dq b (i : Int)) : Nat) : Int) by rw [e1]; unfold dq; rw [decide_eq_true hyes, cond_true, z]; rfl, show ((cp (p.pages.take k) (ed p.text b (i : Int)) : Nat) : Int) + ((ei p.text x).length : Int) = ((cp (p.pages.take (k + 1)) (ed p.text b (i : Int)) : Nat) : Int) by rw [e2]; unfold ed; rw [decide_eq_true hyes, cond_true]; rfl]
     exact ⟨k + 1, by omega, by omega, ⟨⟨rfl, rfl⟩, zF, zB, zN, zX⟩⟩)
  | (have z : b = false := hb
     rw [show ((cp (p.pages.take k) (dq b (i : Int)) : Nat) : Int) + (x.found.length : Int) = ((cp (p.pages.take (k + 1)) (dq b (i : Int)) : Nat) : Int) by rw [e1]; unfold dq; rw [decide_eq_true hyes, cond_true, z]; rfl, show ((cp (p.pages.take k) (ed p.text b (i : Int)) : Nat) : Int) + ((ei p.text x).length : Int) = ((cp (p.pages.take (k + 1)) (ed p.text b (i : Int)) : Nat) : Int) by rw [e2]; unfold ed; rw [decide_eq_true hyes, cond_true]; rfl]
     exact ⟨k + 1, by omega, by omega, ⟨⟨rfl, rfl⟩, zF, zB, zN, zX⟩⟩)
 replace hc := of_decide_eq_false hc
 obtain rfl : k = p.pages.length := by omega
 refine cw ?_
 refine K3 _ ?_
 refine yS fun _ K12 => ?_
 refine yR ?_
 refine yA rfl rfl ?_
 refine yN ?_
 dsimp only [St.put]
 rw [ff (Nat.le_refl p.pages.length)]
 refine K12 _ ?_
 refine yS fun _ K13 => ?_
 refine yS fun _ K14 => ?_
 refine yR ?_
 refine yM rfl rfl ?_
 refine yN ?_
 dsimp only [St.put]
 refine K14 _ ?_
 refine ar rfl (fun hc => ?_) (fun hc => ?_)
 ·have hb2 : b = true := hc
  have hr2 : p.seconds[i]? = some r := by rw [hb2] at hr; exact hr
  have hil := (List.getElem?_eq_some_iff.1 hr2).1
  refine yR ?_
  refine yF rfl rfl rfl rfl ?_
  refine yL rfl rfl rfl ?_
  refine yM rfl rfl ?_
  refine aa rfl (bn rfl rfl rfl rfl (bp (by assumption)) (Enc.len _)) ?_
  refine yF rfl rfl rfl rfl ?_
  refine yL rfl rfl rfl ?_
  refine yA rfl rfl ?_
  refine yN ?_
  dsimp only [St.put]
  refine K13 _ ?_
  refine yS fun _ K15 => ?_
  refine yR ?_
  refine yM rfl rfl ?_
  refine aa rfl (vd rfl rfl rfl (by omega)) ?_
  refine yM rfl rfl ?_
  refine aa rfl (io rfl rfl rfl (by omega)) ?_
  refine aa rfl (yd rfl rfl rfl (by omega) (by omega)) ?_
  refine yA rfl rfl ?_
  refine yN ?_
  dsimp only [St.put]
  rw [show (100 * ((cp p.pages (dq b (i : Int)) : Nat) : Int)) / (100 - r.miss) = mh p b i by unfold mh; rw [hmr]]
  have hbd := wj h b i
  refine K15 _ ?_
  refine yS fun _ K16 => ?_
  refine yR ?_
  refine yM rfl rfl ?_
  refine yM rfl rfl ?_
  refine yM rfl rfl ?_
  refine aa rfl (io rfl rfl rfl (by omega)) ?_
  refine yA rfl rfl ?_
  refine yA rfl rfl ?_
  refine yN ?_
  dsimp only [St.put]
  refine K16 _ ?_
  refine aw ?_
  refine ot rfl (by constructor) (by constructor) zN zS ?_ ?_
  ·rfl
  exact vi (by unfold jz; rfl)
 have hb2 : b = false := hc
 have hr2 : p.firsts[i]? = some r := by rw [hb2] at hr; exact hr
 have hil := (List.getElem?_eq_some_iff.1 hr2).1
 refine yR ?_
 refine yF rfl rfl rfl rfl ?_
 refine yL rfl rfl rfl ?_
 refine yM rfl rfl ?_
 refine aa rfl (bn rfl rfl rfl rfl (bp (by assumption)) (Enc.len _)) ?_
 refine yF rfl rfl rfl rfl ?_
 refine yL rfl rfl rfl ?_
 refine yA rfl rfl ?_
 refine yN ?_
 dsimp only [St.put]
 refine K13 _ ?_
 refine yS fun _ K17 => ?_
 refine yR ?_
 refine yM rfl rfl ?_
 refine aa rfl (vd rfl rfl rfl (by omega)) ?_
 refine yM rfl rfl ?_
 refine aa rfl (io rfl rfl rfl (by omega)) ?_
 refine aa rfl (yd rfl rfl rfl (by omega) (by omega)) ?_
 refine yA rfl rfl ?_
 refine yN ?_
 dsimp only [St.put]
 rw [show (100 * ((cp p.pages (dq b (i : Int)) : Nat) : Int)) / (100 - r.miss) = mh p b i by unfold mh; rw [hmr]]
 have hbd := wj h b i
 refine K17 _ ?_
 refine yS fun _ K18 => ?_
 refine yR ?_
 refine yM rfl rfl ?_
 refine yM rfl rfl ?_
 refine yM rfl rfl ?_
 refine aa rfl (io rfl rfl rfl (by omega)) ?_
 refine yA rfl rfl ?_
 refine yA rfl rfl ?_
 refine yN ?_
 dsimp only [St.put]
 refine K18 _ ?_
 refine aw ?_
 refine ot rfl (by constructor) (by constructor) zN zS ?_ ?_
 ·rfl
 exact vi (by unfold jz; rfl)
end Go.Proofs.YtgffhbbcpgdjjaaDoor
namespace Go.Proofs.YtgffhbbcpgdjjaaDoor
set_option maxRecDepth 10000
open Go Go.RowKit Go.AB
open Go.AB.Enc (cells)
open Go.PB (ay ak PlaceD bi bk bj bz av aq cy cx dp dm)
theorem ugv (p : aq) : Pure Tryd.prog 145 [val p] (lst p.firsts) := by
 refine cz Tryd.func145 rfl (fun m => (cg _ _)) fun G nx => ?_
 simp only [Tryd.ntmps145, List.length_cons, List.length_nil, Nat.reduceAdd, Nat.reduceSub]
 refine ci fun hlt => ?_
 dsimp only at hlt
 refine yS fun _ K1 => ?_
 refine yR ?_
 try dsimp only [St.put]
 refine yB rfl rfl rfl ?_
 refine yA rfl rfl ?_
 refine yN ?_
 dsimp only [St.put]
 refine K1 _ ?_
 refine yS fun _ K2 => ?_
 refine yR ?_
 refine yF rfl rfl rfl rfl ?_
 refine yL rfl rfl rfl ?_
 refine yA rfl rfl ?_
 refine yN ?_
 dsimp only [St.put]
 refine K2 _ ?_
 refine aw ?_
 refine bg rfl (by constructor) zN zS ?_
 rfl
theorem ugu (x : av) : Pure Tryd.prog 146 [val x] (.v (.int .i64 x.fst)) := by
 refine cz Tryd.func146 rfl (fun m => .v) fun G nx => ?_
 simp only [Tryd.ntmps146, List.length_cons, List.length_nil, Nat.reduceAdd, Nat.reduceSub]
 refine ci fun hlt => ?_
 dsimp only at hlt
 refine yS fun _ K1 => ?_
 refine yR ?_
 try dsimp only [St.put]
 refine yB rfl rfl rfl ?_
 refine yA rfl rfl ?_
 refine yN ?_
 dsimp only [St.put]
 refine K1 _ ?_
 refine yS fun _ K2 => ?_
 refine yR ?_
 refine yF rfl rfl rfl rfl ?_
 refine yL rfl rfl rfl ?_
 refine yA rfl rfl ?_
 refine yN ?_
 dsimp only [St.put]
 refine K2 _ ?_
 refine aw ?_
 refine bg rfl (by constructor) zN zS ?_
 rfl
theorem ugt (x : av) : Pure Tryd.prog 147 [val x] (lst x.found) := by
 refine cz Tryd.func147 rfl (fun m => (cg _ _)) fun G nx => ?_
 simp only [Tryd.ntmps147, List.length_cons, List.length_nil, Nat.reduceAdd, Nat.reduceSub]
 refine ci fun hlt => ?_
 dsimp only at hlt
 refine yS fun _ K1 => ?_
 refine yR ?_
 try dsimp only [St.put]
 refine yB rfl rfl rfl ?_
 refine yA rfl rfl ?_
 refine yN ?_
 dsimp only [St.put]
 refine K1 _ ?_
 refine yS fun _ K2 => ?_
 refine yR ?_
 refine yF rfl rfl rfl rfl ?_
 refine yL rfl rfl rfl ?_
 refine yA rfl rfl ?_
 refine yN ?_
 dsimp only [St.put]
 refine K2 _ ?_
 refine aw ?_
 refine bg rfl (by constructor) zN zS ?_
 rfl
theorem ugs (p : aq) : Pure Tryd.prog 148 [val p] (lst p.seconds) := by
 refine cz Tryd.func148 rfl (fun m => (cg _ _)) fun G nx => ?_
 simp only [Tryd.ntmps148, List.length_cons, List.length_nil, Nat.reduceAdd, Nat.reduceSub]
 refine ci fun hlt => ?_
 dsimp only at hlt
 refine yS fun _ K1 => ?_
 refine yR ?_
 try dsimp only [St.put]
 refine yB rfl rfl rfl ?_
 refine yA rfl rfl ?_
 refine yN ?_
 dsimp only [St.put]
 refine K1 _ ?_
 refine yS fun _ K2 => ?_
 refine yR ?_
 refine yF rfl rfl rfl rfl ?_
 refine yL rfl rfl rfl ?_
 refine yA rfl rfl ?_
 refine yN ?_
 dsimp only [St.put]
 refine K2 _ ?_
 refine aw ?_
 refine bg rfl (by constructor) zN zS ?_
 rfl
theorem ugr (x : av) : Pure Tryd.prog 149 [val x] (.v (.int .i64 x.snd)) := by
 refine cz Tryd.func149 rfl (fun m => .v) fun G nx => ?_
 simp only [Tryd.ntmps149, List.length_cons, List.length_nil, Nat.reduceAdd, Nat.reduceSub]
 refine ci fun hlt => ?_
 dsimp only at hlt
 refine yS fun _ K1 => ?_
 refine yR ?_
 try dsimp only [St.put]
 refine yB rfl rfl rfl ?_
 refine yA rfl rfl ?_
 refine yN ?_
 dsimp only [St.put]
 refine K1 _ ?_
 refine yS fun _ K2 => ?_
 refine yR ?_
 refine yF rfl rfl rfl rfl ?_
 refine yL rfl rfl rfl ?_
 refine yA rfl rfl ?_
 refine yN ?_
 dsimp only [St.put]
 refine K2 _ ?_
 refine aw ?_
 refine bg rfl (by constructor) zN zS ?_
 rfl
theorem ugq (x : av) : Pure Tryd.prog 150 [val x] (lst x.well) := by
 refine cz Tryd.func150 rfl (fun m => (cg _ _)) fun G nx => ?_
 simp only [Tryd.ntmps150, List.length_cons, List.length_nil, Nat.reduceAdd, Nat.reduceSub]
 refine ci fun hlt => ?_
 dsimp only at hlt
 refine yS fun _ K1 => ?_
 refine yR ?_
 try dsimp only [St.put]
 refine yB rfl rfl rfl ?_
 refine yA rfl rfl ?_
 refine yN ?_
 dsimp only [St.put]
 refine K1 _ ?_
 refine yS fun _ K2 => ?_
 refine yR ?_
 refine yF rfl rfl rfl rfl ?_
 refine yL rfl rfl rfl ?_
 refine yA rfl rfl ?_
 refine yN ?_
 dsimp only [St.put]
 refine K2 _ ?_
 refine aw ?_
 refine bg rfl (by constructor) zN zS ?_
 rfl
def sRd (b : Bool) : FuncId := bif b then 148 else 145
def sFt (b : Bool) : FuncId := bif b then 149 else 146
def sFd (b : Bool) : FuncId := bif b then 150 else 147
instance (b : Bool) : Fun Tryd.prog (sRd b) := by
 cases b
 ·exact inferInstanceAs (Fun Tryd.prog 145)
 exact inferInstanceAs (Fun Tryd.prog 148)
instance (b : Bool) : Fun Tryd.prog (sFt b) := by
 cases b
 ·exact inferInstanceAs (Fun Tryd.prog 146)
 exact inferInstanceAs (Fun Tryd.prog 149)
instance (b : Bool) : Fun Tryd.prog (sFd b) := by
 cases b
 ·exact inferInstanceAs (Fun Tryd.prog 147)
 exact inferInstanceAs (Fun Tryd.prog 150)
theorem pr (b : Bool) (p : aq) : Pure Tryd.prog (sRd b) [val p] (lst (eh p b)) := by
 cases b
 ·exact ugv p
 exact ugs p
theorem xk (b : Bool) (x : av) : Pure Tryd.prog (sFt b) [val x] (.v (.int .i64 (et b x))) := by
 cases b
 ·exact ugu x
 exact ugr x
theorem ua1 (b : Bool) (x : av) : Pure Tryd.prog (sFd b) [val x] (lst (dr b x)) := by
 cases b
 ·exact ugt x
 exact ugq x
abbrev qm (b : Bool) : List C := [.fn (.func (sRd b)) [], .fn (.func (sFt b)) [], .fn (.func (sFd b)) []]
abbrev sidL : List C := qm false ++ qm true
abbrev m8 : GObj := .fact (.pointer (some ⟨0, 0, none⟩)) (.elem sidL)
abbrev lm (p : aq) : List C := [lst p.text, lst p.firsts, lst p.seconds, lst p.pages, lst (p.pages.map fun x => (f8 p.text x : Int)), lst (p.pages.map (ei p.text)), lst (p.pages.map (fe p.text))]
theorem uj : ∀ {k : Nat}, k < 2 → (sidL.drop (k * 3)).take 3 = qm (decide (k = 1))
 | 0, _ => rfl
 | 1, _ => rfl
 | k + 2, h => by omega
set_option maxHeartbeats 1000000 in
theorem uid (p : aq) (b : Bool) (i : Nat) (h : f5 p) (hi : i < (eh p b).length) : Pure Tryd.prog 43 [.elem (lm p), .agg (qm b), .v (.int .i64 (i : Int))] (.tup [.v (.int .i64 (mh p b i)), .v (.int .i64 (jz p b i))]) := by
 refine cz Tryd.func43 rfl (fun m => .tup (dd .v (dd .v eg))) fun G nx => ?_
 simp only [Tryd.ntmps43, List.length_cons, List.length_nil, Nat.reduceAdd, Nat.reduceSub]
 refine ci fun hlt => ?_
 dsimp only at hlt
 have hown := x4 h b (i : Int)
 have hrd := xu h b (i : Int)
 have hal := n1 h.text
 have hnp := h.np
 have hmb := yg h b i
 obtain ⟨r, hr⟩ : ∃ r, (eh p b)[i]? = some r := da hi
 have hmr := ucg hr
 refine yS fun _ K1 => ?_
 refine yR ?_
 try dsimp only [St.put]
 refine yB rfl rfl rfl ?_
 refine yA rfl rfl ?_
 refine yA rfl rfl ?_
 refine yN ?_
 dsimp only [St.put]
 refine K1 _ ?_
 refine yS fun _ K2 => ?_
 refine yR ?_
 refine yA rfl rfl ?_
 refine yA rfl rfl ?_
 refine yN ?_
 dsimp only [St.put]
 refine K2 _ ?_
 refine yS fun _ K3 => ?_
 refine yS fun _ K4 => ?_
 refine yR ?_
 refine yM rfl rfl ?_
 refine aa rfl (og rfl rfl) ?_
 refine yF rfl rfl rfl rfl ?_
 refine yF rfl rfl rfl rfl ?_
 refine yL rfl rfl rfl ?_
 refine aa rfl (ba rfl rfl (List.length_map _)) ?_
 refine yM rfl rfl ?_
 refine yN ?_
 dsimp only [St.put]
 refine K4 _ ?_
 refine az ?_
 refine ck 20 ?_
 refine zQ ?_
 refine c6 (G) zX ?_
 dsimp only
 refine c5 (X := Nat) (fun k => k ≤ p.pages.length) (fun k => p.pages.length - k) (fun k => [(8, .v (.int .i64 ((cp (p.pages.take k) (dq b (i : Int)) : Nat) : Int))), (9, .v (.int .i64 ((cp (p.pages.take k) (ed p.text b (i : Int)) : Nat) : Int))), (10, .any), (11, .any), (19, .v (.int .i64 (k : Int)))]) (fun k G' => G') 0 rfl ?_ ?_ (fun _ _ h => h) ?_ ?_ ?_
 ·exact Nat.zero_le _
 ·exact zF
 ·rintro k hI
  exact zL
 ·exact fun _ _ _ _ h => .inl h
 rintro k hI
 dsimp only at hI ⊢
 refine yS fun _ K5 => ?_
 refine yR ?_
 refine aa rfl (cj rfl rfl rfl) ?_
 refine yN ?_
 dsimp only [St.put]
 refine K5 _ ?_
 refine yS fun _ K6 => ?_
 refine ar rfl (fun hc => ?_) (fun hc => ?_)
 ·replace hc := of_decide_eq_true hc
  obtain ⟨x, hx⟩ : ∃ x, p.pages[k]? = some x := da (by omega)
  have hax : (p.pages.map (ei p.text))[k]? = some (ei p.text x) := by rw [List.getElem?_map, hx]; rfl
  have hp := pageB_true.1 (h.page k x hx)
  have hfd : (dr b x).length ≤ 600 := by
   have hfl := nw hp.found
   have hwl := nw hp.well
   cases b
   ·show x.found.length ≤ 600
    omega
   show x.well.length ≤ 600
   omega
  have hgl := rb p.text x
  have ht1 := ue (l := p.pages) (g := dq b (i : Int)) k
  have ht2 := ue (l := p.pages) (g := ed p.text b (i : Int)) k
  refine ax ?_
  refine K6 _ ?_
  refine yS fun _ K7 => ?_
  refine az ?_
  refine yS fun _ K8 => ?_
  refine yR ?_
  refine yM rfl rfl ?_
  refine aa rfl (bn rfl rfl rfl rfl (bp (by assumption)) (Enc.len _)) ?_
  refine yE rfl rfl rfl ?_
  try dsimp only [St.put]
  refine aj rfl (eb rfl ?_)
  refine yA rfl rfl ?_
  try dsimp only [St.put]
  refine aj rfl (dj rfl rfl rfl zG rfl rfl (by rfl) ?_)
  refine yN ?_
  dsimp only [St.put]
  refine K8 _ ?_
  refine gt (i := 11) rfl zG zC ?_
  dsimp only
  refine yS fun _ K9 => ?_
  refine yR ?_
  refine yF rfl rfl rfl rfl ?_
  refine yL rfl rfl rfl ?_
  refine yE rfl rfl rfl ?_
  try dsimp only [St.put]
  refine aj rfl (bq rfl rfl rfl (xk b x) ?_)
  refine yM rfl rfl ?_
  refine aa rfl (lv rfl rfl rfl) ?_
  refine yN ?_
  dsimp only [St.put]
  refine K9 _ ?_
  refine ar rfl (fun hc => ?_) (fun hc => ?_)
  ·have hyes : et b x = (i : Int) := of_decide_eq_true hc
   refine yS fun _ K10 => ?_
   refine yR ?_
   refine yM rfl rfl ?_
   refine yF rfl rfl rfl rfl ?_
   refine yL rfl rfl rfl ?_
   refine yE rfl rfl rfl ?_
   try dsimp only [St.put]
   refine aj rfl (bq rfl rfl rfl (ua1 b x) ?_)
   refine aa rfl (ba rfl rfl (List.length_map _)) ?_
   refine aa rfl (bu rfl rfl rfl (by omega)) ?_
   refine yA rfl rfl ?_
   refine yN ?_
   dsimp only [St.put]
   refine K10 _ ?_
   refine yR ?_
   refine yM rfl rfl ?_
   refine yM rfl rfl ?_
   refine aa rfl (og rfl rfl) ?_
   refine yF rfl rfl rfl rfl ?_
   refine yL rfl rfl rfl ?_
   refine yM rfl rfl ?_
   refine aa rfl (bn rfl rfl rfl rfl (bp (by assumption)) (Enc.len _)) ?_
   refine yL rfl rfl rfl ?_
   refine aa rfl (ba rfl rfl (List.length_map _)) ?_
   refine aa rfl (bu rfl rfl rfl (by omega)) ?_
   refine yA rfl rfl ?_
   refine yN ?_
   dsimp only [St.put]
   refine K7 _ ?_
   refine yR ?_
   refine aa rfl (bu rfl rfl rfl (by omega)) ?_
   refine yM rfl rfl ?_
   refine yN ?_
   dsimp only [St.put]
   have e1 := ml (g := dq b (i : Int)) hx
   have e2 := ml (g := ed p.text b (i : Int)) hx
   first
   | (have z : et b x = (i : Int) := hyes
      rw [show ((cp (p.pages.take k) (dq b (i : Int)) : Nat) : Int) + ((dr b x).length : Int) = ((cp (p.pages.take (k + 1)) (dq b (i : Int)) : Nat) : Int) by rw [e1]; unfold dq; rw [decide_eq_true z, cond_true]; rfl, show ((cp (p.pages.take k) (ed p.text b (i : Int)) : Nat) : Int) + ((ei p.text x).length : Int) = ((cp (p.pages.take (k + 1)) (ed p.text b (i : Int)) : Nat) : Int) by rw [e2]; unfold ed; rw [decide_eq_true z, cond_true]; rfl]
      exact ⟨k + 1, by omega, by omega, ⟨⟨rfl, rfl⟩, zF, zB, zN, zX⟩⟩)
   | (have z : ¬ et b x = (i : Int) := hno
      rw [show cp (p.pages.take k) (dq b (i : Int)) = cp (p.pages.take (k + 1)) (dq b (i : Int)) by rw [e1]; unfold dq; rw [decide_eq_false z]; rfl, show cp (p.pages.take k) (ed p.text b (i : Int)) = cp (p.pages.take (k + 1)) (ed p.text b (i : Int)) by rw [e2]; unfold ed; rw [decide_eq_false z]; rfl]
      exact ⟨k + 1, by omega, by omega, ⟨⟨rfl, rfl⟩, zF, zB, zN, zX⟩⟩)
  have hno : ¬ et b x = (i : Int) := of_decide_eq_false hc
  refine ax ?_
  refine K7 _ ?_
  refine yR ?_
  refine aa rfl (bu rfl rfl rfl (by omega)) ?_
  refine yM rfl rfl ?_
  refine yN ?_
  dsimp only [St.put]
  have e1 := ml (g := dq b (i : Int)) hx
  have e2 := ml (g := ed p.text b (i : Int)) hx
  first
  | (have z : et b x = (i : Int) := hyes
     rw [show ((cp (p.pages.take k) (dq b (i : Int)) : Nat) : Int) + ((dr b x).length : Int) = ((cp (p.pages.take (k + 1)) (dq b (i : Int)) : Nat) : Int) by rw [e1]; unfold dq; rw [decide_eq_true z, cond_true]; rfl, show ((cp (p.pages.take k) (ed p.text b (i : Int)) : Nat) : Int) + ((ei p.text x).length : Int) = ((cp (p.pages.take (k + 1)) (ed p.text b (i : Int)) : Nat) : Int) by rw [e2]; unfold ed; rw [decide_eq_true z, cond_true]; rfl]
     exact ⟨k + 1, by omega, by omega, ⟨⟨rfl, rfl⟩, zF, zB, zN, zX⟩⟩)
  | (have z : ¬ et b x = (i : Int) := hno
     rw [show cp (p.pages.take k) (dq b (i : Int)) = cp (p.pages.take (k + 1)) (dq b (i : Int)) by rw [e1]; unfold dq; rw [decide_eq_false z]; rfl, show cp (p.pages.take k) (ed p.text b (i : Int)) = cp (p.pages.take (k + 1)) (ed p.text b (i : Int)) by rw [e2]; unfold ed; rw [decide_eq_false z]; rfl]
     exact ⟨k + 1, by omega, by omega, ⟨⟨rfl, rfl⟩, zF, zB, zN, zX⟩⟩)
 replace hc := of_decide_eq_false hc
 obtain rfl : k = p.pages.length := by omega
 rw [ff (Nat.le_refl p.pages.length)]
 refine cw ?_
 refine K3 _ ?_
 refine yS fun _ K11 => ?_
 refine fm [(0, none), (1, none), (2, none), (3, none), (4, none), (5, none), (6, none), (7, none), (9, none), (8, none), (10, none), (11, none), (12, none), (13, none), (14, none), (15, none)] (fun i => [8, 12].contains i) (fun i => [8, 12].contains i) (fun i => [0, 1, 2, 4, 5, 6, 9, 10, 11, 13, 14, 15].contains i) [] (by kernel_rfl) (by kernel_rfl) ?_
 refine xM rfl rfl rfl rfl rfl ?_
 refine ae rfl rfl rfl rfl (vd rfl rfl rfl (by omega)) ?_
 refine ae rfl rfl rfl rfl (bw rfl rfl rfl) ?_
 try dsimp only [St.put]
 refine ah rfl rfl rfl rfl (bf rfl rfl) ?_
 refine xM rfl rfl rfl rfl rfl ?_
 refine ae rfl rfl rfl rfl (og rfl rfl) ?_
 refine ae rfl rfl rfl rfl (bw rfl rfl rfl) ?_
 try dsimp only [St.put]
 refine ah rfl rfl rfl rfl (c := val p) (jc (cs := lm p) rfl rfl (show 4 ≤ 7 by decide)) ?_
 refine xM rfl rfl rfl rfl rfl ?_
 refine il ?_
 try dsimp only [St.put]
 refine fy rfl rfl rfl rfl (bq rfl rfl rfl (pr b p) ?_)
 try dsimp only [St.put]
 refine ep rfl rfl rfl rfl (bn rfl rfl rfl rfl (bp (by assumption)) (Enc.len _)) ?_
 refine ep rfl rfl rfl rfl (bw rfl rfl rfl) ?_
 try dsimp only [St.put]
 refine fy rfl rfl rfl rfl (SStep.e' (D := fun _ => True) (bf rfl rfl) ?_)
 refine ep rfl rfl rfl rfl (io rfl rfl rfl (by omega)) ?_
 refine ep rfl rfl rfl rfl (yd rfl rfl rfl (by omega) (by omega)) ?_
 refine ep rfl rfl rfl rfl (du rfl (by constructor)) ?_
 refine ij ?_
 dsimp only [St.put]
 rw [show (100 * ((cp p.pages (dq b (i : Int)) : Nat) : Int)) / (100 - r.miss) = mh p b i by unfold mh; rw [hmr]]
 have hbd := wj h b i
 refine K11 _ ?_
 refine yS fun _ K12 => ?_
 refine yR ?_
 refine yM rfl rfl ?_
 refine yM rfl rfl ?_
 refine yM rfl rfl ?_
 refine aa rfl (io rfl rfl rfl (by omega)) ?_
 refine yA rfl rfl ?_
 refine yA rfl rfl ?_
 refine yN ?_
 dsimp only [St.put]
 refine K12 _ ?_
 refine aw ?_
 refine ot rfl (by constructor) (by constructor) zN zS ?_ ?_
 ·rfl
 exact vi (by unfold jz; rfl)
end Go.Proofs.YtgffhbbcpgdjjaaDoor
namespace Go.AB
open Go Go.RowKit
open Go.AB.Enc (cells)
open Go.PB (ay ak PlaceD bi bk bj bz av aq cy cx dp dm)
theorem ubc {p : aq} (h : f5 p) {j : Nat} {x : av} (hx : p.pages[j]? = some x) {k : Nat} (hk : k < (di p x).length) : ∃ zn : Nat, (di p x)[k]? = some (zn : Int) ∧ zn ≤ 6 := by
 have hp := pageB_true.1 (h.page j x hx)
 have h1 := hp.fst
 have h2 := hp.snd
 have h3 := h.nf
 have h4 := h.ns
 obtain ⟨z, hz⟩ : ∃ z, (di p x)[k]? = some z := ⟨_, List.getElem?_eq_getElem hk⟩
 have hm := List.mem_of_getElem? hz
 have hb : 0 ≤ z ∧ z ≤ 6 := by
  unfold di at hm
  rw [List.mem_append] at hm
  rcases hm with hm | hm
  ·by_cases q : 0 ≤ x.fst
   ·rw [decide_eq_true q, cond_true, List.mem_singleton] at hm; omega
   rw [decide_eq_false q] at hm; cases hm
  by_cases q : 0 ≤ x.snd
  ·rw [decide_eq_true q, cond_true, List.mem_singleton] at hm; omega
  rw [decide_eq_false q] at hm; cases hm
 exact ⟨z.toNat, by rw [hz]; congr 1; omega, by omega⟩
theorem uq (p : aq) (x : av) : (di p x).length ≤ 2 := by
 unfold di
 rw [List.length_append]
 cases decide (0 ≤ x.fst) <;> cases decide (0 ≤ x.snd) <;> simp
end Go.AB
namespace Go.Proofs.YtgffhbbcpgdjjaaDoor
set_option maxRecDepth 10000
open Go.RowKit Go.AB
open Go.AB.Enc (cells)
open Go.PB (ay ak PlaceD bi bk bj bz av aq cy cx dp dm)
theorem ube (p : aq) (j : Nat) (x : av) (h : f5 p) (hx : p.pages[j]? = some x) : Pure Tryd.prog 100 [val p, .v (.int .i64 (j : Int))] (lst (di p x)) := by
 refine cz Tryd.func100 rfl (fun m => (cg _ _)) fun G nx => ?_
 simp only [Tryd.ntmps100, List.length_cons, List.length_nil, Nat.reduceAdd, Nat.reduceSub]
 refine ci fun hlt => ?_
 dsimp only at hlt
 have hjl := (List.getElem?_eq_some_iff.1 hx).1
 have hp := pageB_true.1 (h.page j x hx)
 have hp1 := hp.fst
 have hp2 := hp.snd
 have hn1 := h.nf
 have hn2 := h.ns
 have hnp := h.np
 refine yS fun _ K1 => ?_
 refine yR ?_
 try dsimp only [St.put]
 refine yB rfl rfl rfl ?_
 refine yA rfl rfl ?_
 refine yN ?_
 dsimp only [St.put]
 refine K1 _ ?_
 refine yS fun _ K2 => ?_
 refine yR ?_
 refine yA rfl rfl ?_
 refine yN ?_
 dsimp only [St.put]
 refine K2 _ ?_
 refine pp 5 3 1 rfl (by decide) ?_
 dsimp only [List.set_cons_zero, List.set_cons_succ]
 refine yS fun _ K3 => ?_
 refine yS fun _ K4 => ?_
 refine yR ?_
 refine yF rfl rfl rfl rfl ?_
 refine yL rfl rfl rfl ?_
 refine yM rfl rfl ?_
 refine aa rfl (bn rfl rfl rfl rfl (bp (by assumption)) (Enc.len _)) ?_
 refine yF rfl rfl rfl rfl ?_
 refine yL rfl rfl rfl ?_
 refine yA rfl rfl ?_
 refine yN ?_
 dsimp only [St.put]
 refine K4 _ ?_
 refine yS fun _ K5 => ?_
 refine yR ?_
 refine yM rfl rfl ?_
 refine aa rfl (lu rfl rfl rfl) ?_
 refine yN ?_
 dsimp only [St.put]
 refine K5 _ ?_
 refine ar rfl (fun hc => ?_) (fun hc => ?_)
 ·have hA : (bif decide (0 ≤ x.fst) then [x.fst] else []) = [x.fst] := by rw [hc]; rfl
  refine yR ?_
  refine yM rfl rfl ?_
  refine yM rfl rfl ?_
  try dsimp only [St.put]
  refine aj rfl (fh rfl rfl rfl (by decide) (by decide) zR (by decide) ?_)
  try dsimp only [St.put]
  refine aj rfl (jh (xs := ([] : List Int)) [x.fst] rfl rfl zG rfl rfl rfl zA ?_ zA)
  refine yA rfl rfl ?_
  refine yN ?_
  dsimp only [St.put]
  refine K3 _ ?_
  refine yS fun _ K6 => ?_
  refine yS fun _ K7 => ?_
  refine yR ?_
  refine yF rfl rfl rfl rfl ?_
  refine yL rfl rfl rfl ?_
  refine yM rfl rfl ?_
  refine aa rfl (bn rfl rfl rfl rfl (bp (by assumption)) (Enc.len _)) ?_
  refine yF rfl rfl rfl rfl ?_
  refine yL rfl rfl rfl ?_
  refine yA rfl rfl ?_
  refine yN ?_
  dsimp only [St.put]
  refine K7 _ ?_
  refine yS fun _ K8 => ?_
  refine yR ?_
  refine yM rfl rfl ?_
  refine aa rfl (lu rfl rfl rfl) ?_
  refine yN ?_
  dsimp only [St.put]
  refine K8 _ ?_
  refine ar rfl (fun hc => ?_) (fun hc => ?_)
  ·have hB : (bif decide (0 ≤ x.snd) then [(p.firsts.length : Int) + x.snd] else []) = [(p.firsts.length : Int) + x.snd] := by rw [hc]; rfl
   refine yR ?_
   refine yM rfl rfl ?_
   refine yF rfl rfl rfl rfl ?_
   refine yL rfl rfl rfl ?_
   refine aa rfl (ba rfl rfl (List.length_map _)) ?_
   refine yM rfl rfl ?_
   refine aa rfl (bu rfl rfl rfl (by omega)) ?_
   try dsimp only [St.put]
   refine aj rfl (fh rfl rfl rfl (by decide) (by decide) zR (by decide) ?_)
   try dsimp only [St.put]
   refine aj rfl (jh (xs := ([] ++ [x.fst] : List Int)) [(p.firsts.length : Int) + x.snd] rfl rfl zG rfl rfl rfl zA ?_ zA)
   refine yA rfl rfl ?_
   refine yN ?_
   dsimp only [St.put]
   refine K6 _ ?_
   refine yS fun _ K9 => ?_
   refine yR ?_
   refine yM rfl rfl ?_
   refine yA rfl rfl ?_
   refine yN ?_
   dsimp only [St.put]
   refine K9 _ ?_
   refine aw ?_
   refine lg rfl (fk (by constructor)) zN zS ?_
   unfold di
   rw [hA, hB]
   exact zW
  have hB : (bif decide (0 ≤ x.snd) then [(p.firsts.length : Int) + x.snd] else []) = [] := by rw [hc]; rfl
  refine ax ?_
  refine K6 _ ?_
  refine yS fun _ K10 => ?_
  refine yR ?_
  refine yM rfl rfl ?_
  refine yA rfl rfl ?_
  refine yN ?_
  dsimp only [St.put]
  refine K10 _ ?_
  refine aw ?_
  refine lg rfl (fk (by constructor)) zN zS ?_
  unfold di
  rw [hA, hB]
  exact zW
 have hA : (bif decide (0 ≤ x.fst) then [x.fst] else []) = [] := by rw [hc]; rfl
 refine ax ?_
 refine K3 _ ?_
 refine yS fun _ K11 => ?_
 refine yS fun _ K12 => ?_
 refine yR ?_
 refine yF rfl rfl rfl rfl ?_
 refine yL rfl rfl rfl ?_
 refine yM rfl rfl ?_
 refine aa rfl (bn rfl rfl rfl rfl (bp (by assumption)) (Enc.len _)) ?_
 refine yF rfl rfl rfl rfl ?_
 refine yL rfl rfl rfl ?_
 refine yA rfl rfl ?_
 refine yN ?_
 dsimp only [St.put]
 refine K12 _ ?_
 refine yS fun _ K13 => ?_
 refine yR ?_
 refine yM rfl rfl ?_
 refine aa rfl (lu rfl rfl rfl) ?_
 refine yN ?_
 dsimp only [St.put]
 refine K13 _ ?_
 refine ar rfl (fun hc => ?_) (fun hc => ?_)
 ·have hB : (bif decide (0 ≤ x.snd) then [(p.firsts.length : Int) + x.snd] else []) = [(p.firsts.length : Int) + x.snd] := by rw [hc]; rfl
  refine yR ?_
  refine yM rfl rfl ?_
  refine yF rfl rfl rfl rfl ?_
  refine yL rfl rfl rfl ?_
  refine aa rfl (ba rfl rfl (List.length_map _)) ?_
  refine yM rfl rfl ?_
  refine aa rfl (bu rfl rfl rfl (by omega)) ?_
  try dsimp only [St.put]
  refine aj rfl (fh rfl rfl rfl (by decide) (by decide) zR (by decide) ?_)
  try dsimp only [St.put]
  refine aj rfl (jh (xs := ([] : List Int)) [(p.firsts.length : Int) + x.snd] rfl rfl zG rfl rfl rfl zA ?_ zA)
  refine yA rfl rfl ?_
  refine yN ?_
  dsimp only [St.put]
  refine K11 _ ?_
  refine yS fun _ K14 => ?_
  refine yR ?_
  refine yM rfl rfl ?_
  refine yA rfl rfl ?_
  refine yN ?_
  dsimp only [St.put]
  refine K14 _ ?_
  refine aw ?_
  refine lg rfl (fk (by constructor)) zN zS ?_
  unfold di
  rw [hA, hB]
  exact zW
 have hB : (bif decide (0 ≤ x.snd) then [(p.firsts.length : Int) + x.snd] else []) = [] := by rw [hc]; rfl
 refine ax ?_
 refine K11 _ ?_
 refine yS fun _ K15 => ?_
 refine yR ?_
 refine yM rfl rfl ?_
 refine yA rfl rfl ?_
 refine yN ?_
 dsimp only [St.put]
 refine K15 _ ?_
 refine aw ?_
 refine lg rfl (fk (by constructor)) zN zS ?_
 unfold di
 rw [hA, hB]
 exact zW
set_option maxHeartbeats 1000000 in
theorem uhu (p : aq) (R C : Nat → Int) (s : Nat) (h : f5 p) (hB : Bd p R C) (hs : s ≤ 1000) : Pure Tryd.prog 101 [val p, val (o4 p R C), .v (.int .i64 (s : Int))] (.v (.int .i64 ((eu p).f R C fun i => s.testBit i))) := by
 refine cz Tryd.func101 rfl (fun m => .v) fun G nx => ?_
 simp only [Tryd.ntmps101, List.length_cons, List.length_nil, Nat.reduceAdd, Nat.reduceSub]
 refine ci fun hlt => ?_
 dsimp only at hlt
 have hnr := hB.nr
 have hnp := hB.np
 have hl1 := im (bl p) R
 have hl2 := im p.pages.length C
 refine yS fun _ K1 => ?_
 refine yR ?_
 try dsimp only [St.put]
 refine yB rfl rfl rfl ?_
 try dsimp only [St.put]
 refine yB rfl rfl rfl ?_
 refine yA rfl rfl ?_
 refine yN ?_
 dsimp only [St.put]
 refine K1 _ ?_
 refine yS fun _ K2 => ?_
 refine yR ?_
 refine yA rfl rfl ?_
 refine yN ?_
 dsimp only [St.put]
 refine K2 _ ?_
 refine yS fun _ K3 => ?_
 refine yS fun _ K4 => ?_
 refine yR ?_
 refine yA rfl rfl ?_
 refine yN ?_
 dsimp only [St.put]
 refine K4 _ ?_
 refine az ?_
 refine ck 13 ?_
 refine zQ ?_
 refine c6 (G) zX ?_
 dsimp only
 refine c5 (X := Nat) (fun i => i ≤ bl p) (fun i => bl p - i) (fun i => [(7, .v (.int .i64 (fR R (fun i => s.testBit i) i))), (8, .v (.int .i64 (i : Int)))]) (fun i G' => G') 0 rfl ?_ ?_ (fun _ _ h => h) ?_ ?_ ?_
 ·exact Nat.zero_le _
 ·exact zF
 ·rintro i hI
  exact zL
 ·exact fun _ _ _ _ h => .inl h
 rintro i hI
 dsimp only at hI ⊢
 refine yS fun _ K5 => ?_
 refine yS fun _ K6 => ?_
 refine yR ?_
 refine yM rfl rfl ?_
 refine yF rfl rfl rfl rfl ?_
 refine yL rfl rfl rfl ?_
 refine aa rfl (ba rfl rfl (List.length_map _)) ?_
 refine aa rfl (cj rfl rfl rfl) ?_
 refine yN ?_
 dsimp only [St.put]
 refine K6 _ ?_
 refine ar rfl (fun hc => ?_) (fun hc => ?_)
 ·replace hc := of_decide_eq_true hc
  have hi : i < bl p := by
   have : (i : Int) < ((bh (bl p) R).length : Int) := hc
   rw [hl1] at this
   omega
  have hRi := ll R hi
  have hbd := tl hB (fun i => s.testBit i) i (by omega)
  have hrb := hB.r i
  refine ax ?_
  refine K5 _ ?_
  refine yS fun _ K7 => ?_
  refine az ?_
  refine yS fun _ K8 => ?_
  refine yR ?_
  refine yM rfl rfl ?_
  refine yM rfl rfl ?_
  refine aa rfl (qq (m := s) (n := i) rfl rfl rfl (by show i ≤ 64; omega) (by show (s : Int) ≤ 9223372036854775807; omega) (by decide)) ?_
  refine aa rfl (qt (m := s / 2 ^ i) rfl rfl rfl (Nat.lt_of_le_of_lt (Nat.div_le_self _ _) (by show s < 2 ^ 64; omega)) (by decide)) ?_
  refine aa rfl (lv rfl rfl rfl) ?_
  refine yN ?_
  dsimp only [St.put]
  refine K8 _ ?_
  refine ar rfl (fun hc => ?_) (fun hc => ?_)
  ·have hb : s.testBit i = true := bit_eq.1 (of_decide_eq_true hc)
   refine yR ?_
   refine yM rfl rfl ?_
   refine yF rfl rfl rfl rfl ?_
   refine yL rfl rfl rfl ?_
   refine yM rfl rfl ?_
   refine aa rfl (bn rfl rfl rfl rfl (bp (by assumption)) (Enc.len _)) ?_
   refine yL rfl rfl rfl ?_
   refine aa rfl (bu rfl rfl rfl (by omega)) ?_
   refine yA rfl rfl ?_
   refine yN ?_
   dsimp only [St.put]
   refine K7 _ ?_
   refine yR ?_
   refine yM rfl rfl ?_
   refine aa rfl (bu rfl rfl rfl (by omega)) ?_
   refine yA rfl rfl ?_
   refine yN ?_
   dsimp only [St.put]
   have e := y4 R (fun i => s.testBit i) i
   first
   | (have z : s.testBit i = true := hb
      rw [show (bif s.testBit i then R i else 0) = R i by rw [z]; rfl] at e
      rw [← e]
      exact ⟨i + 1, by omega, by omega, ⟨⟨rfl, rfl⟩, zF, zB, zN, zX⟩⟩)
   | (have z : s.testBit i = false := hb
      rw [show (bif s.testBit i then R i else 0) = 0 by rw [z]; rfl, Int.add_zero] at e
      rw [← e]
      exact ⟨i + 1, by omega, by omega, ⟨⟨rfl, rfl⟩, zF, zB, zN, zX⟩⟩)
  have hb : s.testBit i = false := by
   have := of_decide_eq_false hc
   rw [bit_eq, Bool.not_eq_true] at this
   exact this
  refine ax ?_
  refine K7 _ ?_
  refine yR ?_
  refine yM rfl rfl ?_
  refine aa rfl (bu rfl rfl rfl (by omega)) ?_
  refine yA rfl rfl ?_
  refine yN ?_
  dsimp only [St.put]
  have e := y4 R (fun i => s.testBit i) i
  first
  | (have z : s.testBit i = true := hb
     rw [show (bif s.testBit i then R i else 0) = R i by rw [z]; rfl] at e
     rw [← e]
     exact ⟨i + 1, by omega, by omega, ⟨⟨rfl, rfl⟩, zF, zB, zN, zX⟩⟩)
  | (have z : s.testBit i = false := hb
     rw [show (bif s.testBit i then R i else 0) = 0 by rw [z]; rfl, Int.add_zero] at e
     rw [← e]
     exact ⟨i + 1, by omega, by omega, ⟨⟨rfl, rfl⟩, zF, zB, zN, zX⟩⟩)
 replace hc := of_decide_eq_false hc
 obtain rfl : i = bl p := by
  have : ¬ (i : Int) < ((bh (bl p) R).length : Int) := hc
  rw [hl1] at this
  omega
 have hfr := tl hB (fun i => s.testBit i) _ (Nat.le_refl (bl p))
 obtain ⟨FR, hFR⟩ : ∃ FR, fR R (fun i => s.testBit i) (bl p) = FR := ⟨_, rfl⟩
 rw [hFR] at hfr
 refine cw ?_
 refine K3 _ ?_
 refine yS fun _ K9 => ?_
 refine yS fun _ K10 => ?_
 refine yR ?_
 refine yA rfl rfl ?_
 refine yN ?_
 dsimp only [St.put]
 rw [hFR, show FR = FR + fC p C (fun i => s.testBit i) 0 by show FR = FR + 0; omega]
 refine K10 _ ?_
 refine az ?_
 refine ck 13 ?_
 refine zQ ?_
 refine c6 (G) zX ?_
 dsimp only
 refine c5 (X := Nat) (fun j => j ≤ p.pages.length) (fun j => p.pages.length - j) (fun j => [(7, .v (.int .i64 (FR + fC p C (fun i => s.testBit i) j))), (9, .v (.int .i64 (j : Int))), (10, .any), (11, .any), (12, .any)]) (fun j G' => G') 0 rfl ?_ ?_ (fun _ _ h => h) ?_ ?_ ?_
 ·exact Nat.zero_le _
 ·exact zF
 ·rintro j hI
  exact zL
 ·exact fun _ _ _ _ h => .inl h
 rintro j hJ
 dsimp only at hJ ⊢
 refine yS fun _ K11 => ?_
 refine yS fun _ K12 => ?_
 refine yR ?_
 refine yM rfl rfl ?_
 refine yF rfl rfl rfl rfl ?_
 refine yL rfl rfl rfl ?_
 refine aa rfl (ba rfl rfl (List.length_map _)) ?_
 refine aa rfl (cj rfl rfl rfl) ?_
 refine yN ?_
 dsimp only [St.put]
 refine K12 _ ?_
 refine ar rfl (fun hc => ?_) (fun hc => ?_)
 ·replace hc := of_decide_eq_true hc
  have hj : j < p.pages.length := by
   have : (j : Int) < ((bh p.pages.length C).length : Int) := hc
   rw [hl2] at this
   omega
  obtain ⟨x, hx⟩ : ∃ x, p.pages[j]? = some x := da hj
  have hCj := ll C hj
  have hcb := hB.c j
  have hfc := y5 hB (fun i => s.testBit i) j (by omega)
  have hrl := uq p x
  have hhit := uc4 hx fun i => s.testBit i
  refine ax ?_
  refine K11 _ ?_
  refine yS fun _ K13 => ?_
  refine az ?_
  refine yS fun _ K14 => ?_
  refine yR ?_
  refine yA rfl rfl ?_
  refine yN ?_
  dsimp only [St.put]
  refine K14 _ ?_
  refine yS fun _ K15 => ?_
  refine yR ?_
  refine yE rfl rfl rfl ?_
  refine yM rfl rfl ?_
  try dsimp only [St.put]
  refine aj rfl (bq rfl rfl rfl (ube p j x h hx) ?_)
  refine yA rfl rfl ?_
  refine yN ?_
  dsimp only [St.put]
  refine K15 _ ?_
  refine yS fun _ K16 => ?_
  refine yS fun _ K17 => ?_
  refine yR ?_
  refine yA rfl rfl ?_
  refine yN ?_
  dsimp only [St.put]
  refine K17 _ ?_
  refine az ?_
  refine ck 13 ?_
  refine zQ ?_
  refine c6 (G) zX ?_
  dsimp only
  refine c5 (X := Nat × Bool) (fun y => y.1 ≤ (di p x).length ∧ ((di p x).take y.1).any (fun z => s.testBit z.toNat) = y.2) (fun y => (di p x).length - y.1) (fun y => [(10, .v (.bool y.2)), (12, .v (.int .i64 (y.1 : Int)))]) (fun y G' => G') (0, false) rfl ?_ ?_ (fun _ _ h => h) ?_ ?_ ?_
  ·exact ⟨Nat.zero_le _, rfl⟩
  ·exact zF
  ·rintro ⟨k, d⟩ hI
   exact zL
  ·exact fun _ _ _ _ h => .inl h
  rintro ⟨k, d⟩ hM
  dsimp only at hM ⊢
  refine yS fun _ K18 => ?_
  refine yS fun _ K19 => ?_
  refine yR ?_
  refine yM rfl rfl ?_
  refine yM rfl rfl ?_
  refine aa rfl (ba rfl rfl (List.length_map _)) ?_
  refine aa rfl (cj rfl rfl rfl) ?_
  refine yN ?_
  dsimp only [St.put]
  refine K19 _ ?_
  refine ar rfl (fun hc => ?_) (fun hc => ?_)
  ·replace hc := of_decide_eq_true hc
   obtain ⟨zn, hz, hz6⟩ := ubc h hx (k := k) (by omega)
   refine ax ?_
   refine K18 _ ?_
   refine yS fun _ K20 => ?_
   refine az ?_
   refine yR ?_
   refine yM rfl rfl ?_
   refine yM rfl rfl ?_
   refine eo (fun hs => ?_) (fun hs => ?_)
   ·have s2 := hs
    refine yK rfl ?_
    refine yK rfl ?_
    refine yK rfl ?_
    refine yK rfl ?_
    refine yK rfl ?_
    refine yK rfl ?_
    refine yK rfl ?_
    refine yK rfl ?_
    refine aa rfl (cm rfl rfl (by constructor)) ?_
    refine yA rfl rfl ?_
    refine yN ?_
    dsimp only [St.put]
    refine K20 _ ?_
    refine yR ?_
    refine yM rfl rfl ?_
    refine aa rfl (bu rfl rfl rfl (by omega)) ?_
    refine yA rfl rfl ?_
    refine yN ?_
    dsimp only [St.put]
    have hst := rj (p := fun z : Int => s.testBit z.toNat) hz
    rw [hM.2, Int.toNat_natCast] at hst
    first
    | (have e1 : d = true := s2
       rw [e1, Bool.true_or] at hst
       exact ⟨(k + 1, true), by (dsimp only; omega), ⟨by (dsimp only; omega), hst⟩, ⟨⟨rfl, rfl⟩, zF, zB, zN, zX⟩⟩)
    | (have e1 : d = false := s2
       rw [e1, Bool.false_or, show s.testBit zn = decide (((s / 2 ^ zn % 2 : Nat) : Int) = 1) by rw [Bool.eq_iff_iff, decide_eq_true_eq, bit_eq]] at hst
       exact ⟨(k + 1, decide (((s / 2 ^ zn % 2 : Nat) : Int) = 1)), by (dsimp only; omega), ⟨by (dsimp only; omega), hst⟩, ⟨⟨rfl, rfl⟩, zF, zB, zN, zX⟩⟩)
   have s2 := hs
   refine yM rfl rfl ?_
   refine yM rfl rfl ?_
   refine yM rfl rfl ?_
   refine aa rfl (bn rfl rfl rfl rfl (bp (by assumption)) (Enc.len _)) ?_
   refine yL rfl rfl rfl ?_
   refine aa rfl (qq (m := s) (n := zn) rfl rfl rfl (by show zn ≤ 64; omega) (by show (s : Int) ≤ 9223372036854775807; omega) (by decide)) ?_
   refine aa rfl (qt (m := s / 2 ^ zn) rfl rfl rfl (Nat.lt_of_le_of_lt (Nat.div_le_self _ _) (by show s < 2 ^ 64; omega)) (by decide)) ?_
   refine aa rfl (lv rfl rfl rfl) ?_
   refine aa rfl (ce rfl rfl (by constructor)) ?_
   refine yA rfl rfl ?_
   refine yN ?_
   dsimp only [St.put]
   refine K20 _ ?_
   refine yR ?_
   refine yM rfl rfl ?_
   refine aa rfl (bu rfl rfl rfl (by omega)) ?_
   refine yA rfl rfl ?_
   refine yN ?_
   dsimp only [St.put]
   have hst := rj (p := fun z : Int => s.testBit z.toNat) hz
   rw [hM.2, Int.toNat_natCast] at hst
   first
   | (have e1 : d = true := s2
      rw [e1, Bool.true_or] at hst
      exact ⟨(k + 1, true), by (dsimp only; omega), ⟨by (dsimp only; omega), hst⟩, ⟨⟨rfl, rfl⟩, zF, zB, zN, zX⟩⟩)
   | (have e1 : d = false := s2
      rw [e1, Bool.false_or, show s.testBit zn = decide (((s / 2 ^ zn % 2 : Nat) : Int) = 1) by rw [Bool.eq_iff_iff, decide_eq_true_eq, bit_eq]] at hst
      exact ⟨(k + 1, decide (((s / 2 ^ zn % 2 : Nat) : Int) = 1)), by (dsimp only; omega), ⟨by (dsimp only; omega), hst⟩, ⟨⟨rfl, rfl⟩, zF, zB, zN, zX⟩⟩)
  replace hc := of_decide_eq_false hc
  have hd := hM.2
  rw [ff (show (di p x).length ≤ k by omega), ← hhit] at hd
  refine cw ?_
  refine K16 _ ?_
  refine yS fun _ K21 => ?_
  refine yR ?_
  refine yM rfl rfl ?_
  refine aa rfl (ef rfl rfl) ?_
  refine yN ?_
  dsimp only [St.put]
  refine K21 _ ?_
  refine ar rfl (fun hc => ?_) (fun hc => ?_)
  ·have hh : (eu p).hit (fun i => s.testBit i) j = false := hd.trans (by simpa using hc)
   refine yR ?_
   refine yM rfl rfl ?_
   refine yF rfl rfl rfl rfl ?_
   refine yL rfl rfl rfl ?_
   refine yM rfl rfl ?_
   refine aa rfl (bn rfl rfl rfl rfl (bp (by assumption)) (Enc.len _)) ?_
   refine yL rfl rfl rfl ?_
   refine aa rfl (bu rfl rfl rfl (by omega)) ?_
   refine yA rfl rfl ?_
   refine yN ?_
   dsimp only [St.put]
   refine K13 _ ?_
   refine yR ?_
   refine yM rfl rfl ?_
   refine aa rfl (bu rfl rfl rfl (by omega)) ?_
   refine yA rfl rfl ?_
   refine yN ?_
   dsimp only [St.put]
   have e := wb p C (fun i => s.testBit i) j
   first
   | (have z : (eu p).hit (fun i => s.testBit i) j = true := hh
      rw [z, cond_true, Int.add_zero] at e
      rw [← e]
      exact ⟨j + 1, by omega, by omega, ⟨⟨rfl, rfl⟩, zF, zB, zN, zX⟩⟩)
   | (have z : (eu p).hit (fun i => s.testBit i) j = false := hh
      rw [z, cond_false] at e
      rw [Int.add_assoc, ← e]
      exact ⟨j + 1, by omega, by omega, ⟨⟨rfl, rfl⟩, zF, zB, zN, zX⟩⟩)
  have hh : (eu p).hit (fun i => s.testBit i) j = true := hd.trans (by simpa using hc)
  refine ax ?_
  refine K13 _ ?_
  refine yR ?_
  refine yM rfl rfl ?_
  refine aa rfl (bu rfl rfl rfl (by omega)) ?_
  refine yA rfl rfl ?_
  refine yN ?_
  dsimp only [St.put]
  have e := wb p C (fun i => s.testBit i) j
  first
  | (have z : (eu p).hit (fun i => s.testBit i) j = true := hh
     rw [z, cond_true, Int.add_zero] at e
     rw [← e]
     exact ⟨j + 1, by omega, by omega, ⟨⟨rfl, rfl⟩, zF, zB, zN, zX⟩⟩)
  | (have z : (eu p).hit (fun i => s.testBit i) j = false := hh
     rw [z, cond_false] at e
     rw [Int.add_assoc, ← e]
     exact ⟨j + 1, by omega, by omega, ⟨⟨rfl, rfl⟩, zF, zB, zN, zX⟩⟩)
 replace hc := of_decide_eq_false hc
 obtain rfl : j = p.pages.length := by
  have : ¬ (j : Int) < ((bh p.pages.length C).length : Int) := hc
  rw [hl2] at this
  omega
 refine cw ?_
 refine K9 _ ?_
 refine yS fun _ K22 => ?_
 refine yR ?_
 refine yM rfl rfl ?_
 refine yA rfl rfl ?_
 refine yN ?_
 dsimp only [St.put]
 refine K22 _ ?_
 refine aw ?_
 refine bg rfl (by constructor) zN zS ?_
 exact vi (by rw [yz, hFR])
end Go.Proofs.YtgffhbbcpgdjjaaDoor
namespace Go.Proofs.YtgffhbbcpgdjjaaDoor
set_option maxRecDepth 10000
open Go.RowKit Go.AB
open Go.AB.Enc (cells)
open Go.PB (ay ak PlaceD bi bk bj bz av aq cy cx dp dm)
set_option maxHeartbeats 1000000 in
theorem uhv (p : aq) (R C : Nat → Int) (h : f5 p) (hB : Bd p R C) : Pure Tryd.prog 84 [val p, val (o4 p R C)] (.v (.int .i64 ((eu p).most R C))) := by
 refine cz Tryd.func84 rfl (fun m => .v) fun G nx => ?_
 simp only [Tryd.ntmps84, List.length_cons, List.length_nil, Nat.reduceAdd, Nat.reduceSub]
 refine ci fun hlt => ?_
 dsimp only at hlt
 have hnr := hB.nr
 have hl1 := im (bl p) R
 have h64 : 2 ^ bl p ≤ 2 ^ 6 := Nat.pow_le_pow_right (by omega) hnr
 have hpos : 0 < 2 ^ bl p := Nat.two_pow_pos _
 obtain ⟨g, hg⟩ : ∃ g : Nat → Int, (fun s => (eu p).f R C fun i => s.testBit i) = g := ⟨_, rfl⟩
 have hgs : ∀ s : Nat, (eu p).f R C (fun i => s.testBit i) = g s := fun s => congrFun hg s
 have hP : ∀ s : Nat, s ≤ 1000 → Pure Tryd.prog 101 [val p, val (o4 p R C), .v (.int .i64 (s : Int))] (.v (.int .i64 (g s))) := fun s hs => by
  have := uhu p R C s h hB hs
  rwa [hgs] at this
 have hgb : ∀ s, -6000000 ≤ g s ∧ g s ≤ 14000000 := fun s => by rw [← hgs]; exact f_bd hB _
 refine yS fun _ K1 => ?_
 refine yR ?_
 try dsimp only [St.put]
 refine yB rfl rfl rfl ?_
 try dsimp only [St.put]
 refine yB rfl rfl rfl ?_
 refine yA rfl rfl ?_
 refine yN ?_
 dsimp only [St.put]
 refine K1 _ ?_
 refine yS fun _ K2 => ?_
 refine yR ?_
 refine yE rfl rfl rfl ?_
 refine yE rfl rfl rfl ?_
 try dsimp only [St.put]
 refine aj rfl (bq rfl rfl rfl (hP 0 (by omega)) ?_)
 refine yA rfl rfl ?_
 refine yN ?_
 dsimp only [St.put]
 rw [show g 0 = jy g 1 from (ujq g).symm]
 refine K2 _ ?_
 refine yS fun _ K3 => ?_
 refine yS fun _ K4 => ?_
 refine yR ?_
 refine yA rfl rfl ?_
 refine yN ?_
 dsimp only [St.put]
 refine K4 _ ?_
 refine az ?_
 refine ck 7 ?_
 refine zQ ?_
 refine c6 (G) zX ?_
 dsimp only
 refine c5 (X := Nat) (fun s => 1 ≤ s ∧ s ≤ 2 ^ bl p) (fun s => 2 ^ bl p - s) (fun s => [(5, .v (.int .i64 (jy g s))), (6, .v (.int .i64 (s : Int)))]) (fun s G' => G') 1 rfl ?_ ?_ (fun _ _ h => h) ?_ ?_ ?_
 ·exact ⟨Nat.le_refl _, hpos⟩
 ·exact zF
 ·rintro s hI
  exact zL
 ·exact fun _ _ _ _ h => .inl h
 rintro s hI
 dsimp only at hI ⊢
 refine yS fun _ K5 => ?_
 refine yS fun _ K6 => ?_
 refine yR ?_
 refine yM rfl rfl ?_
 refine yF rfl rfl rfl rfl ?_
 refine yL rfl rfl rfl ?_
 refine aa rfl (ba rfl rfl (List.length_map _)) ?_
 refine aa rfl (u7 (n := (bh (bl p) R).length) rfl rfl rfl (by rw [hl1]; omega)) ?_
 refine aa rfl (cj rfl rfl rfl) ?_
 refine yN ?_
 dsimp only [St.put]
 refine K6 _ ?_
 refine ar rfl (fun hc => ?_) (fun hc => ?_)
 ·replace hc := of_decide_eq_true hc
  have hlt : s < 2 ^ bl p := by
   have : (s : Int) < ((2 ^ (bh (bl p) R).length : Nat) : Int) := hc
   rw [hl1] at this
   omega
  have hmb := uci hgb s
  have hgb1 := hgb s
  refine ax ?_
  refine K5 _ ?_
  refine yS fun _ K7 => ?_
  refine az ?_
  refine yR ?_
  refine yM rfl rfl ?_
  refine yE rfl rfl rfl ?_
  refine yE rfl rfl rfl ?_
  refine yM rfl rfl ?_
  try dsimp only [St.put]
  refine aj rfl (bq rfl rfl rfl (hP s (by omega)) ?_)
  refine aa rfl (uce rfl rfl rfl rfl) ?_
  refine yA rfl rfl ?_
  refine yN ?_
  dsimp only [St.put]
  refine K7 _ ?_
  refine yR ?_
  refine yM rfl rfl ?_
  refine aa rfl (bu rfl rfl rfl (by omega)) ?_
  refine yA rfl rfl ?_
  refine yN ?_
  dsimp only [St.put]
  rw [show min (jy g s) (g s) = jy g (s + 1) from rfl]
  exact ⟨s + 1, by omega, ⟨by omega, by omega⟩, ⟨⟨rfl, rfl⟩, zF, zB, zN, zX⟩⟩
 replace hc := of_decide_eq_false hc
 obtain rfl : s = 2 ^ bl p := by
  have : ¬ (s : Int) < ((2 ^ (bh (bl p) R).length : Nat) : Int) := hc
  rw [hl1] at this
  omega
 refine cw ?_
 refine K3 _ ?_
 refine yS fun _ K8 => ?_
 refine yR ?_
 refine yM rfl rfl ?_
 refine yA rfl rfl ?_
 refine yN ?_
 dsimp only [St.put]
 refine K8 _ ?_
 refine aw ?_
 refine bg rfl (by constructor) zN zS ?_
 exact vi (by unfold Net.most; rw [hg]; rfl)
end Go.Proofs.YtgffhbbcpgdjjaaDoor
namespace Go.AB
open Go Go.RowKit
open Go.AB.Enc (cells)
open Go.PB (ay ak PlaceD bi bk bj)
theorem lt3 {a b c a' b' c' : Int} : fl [a, b, c] [a', b', c'] < 0 ↔ a < a' ∨ a = a' ∧ (b < b' ∨ b = b' ∧ c < c') := by
 rw [ny (a := [a, b, c]) (b := [a', b', c']) rfl]; simp [ltW]
end Go.AB
namespace Go.Proofs.YtgffhbbcpgdjjaaDoor
set_option maxRecDepth 10000
open Go.RowKit Go.AB
open Go.AB.Enc (cells)
open Go.PB (ay ak PlaceD bi bk bj)
theorem ufe (a b : PlaceD) : Pure Tryd.prog 96 [val a, val b] (.v (.bool (decide (fl (dl a) (dl b) < 0)))) := by
 refine cz Tryd.func96 rfl (fun m => .v) fun G nx => ?_
 simp only [Tryd.ntmps96, List.length_cons, List.length_nil, Nat.reduceAdd, Nat.reduceSub]
 refine ci fun hlt => ?_
 dsimp only at hlt
 refine yS fun _ K1 => ?_
 refine yR ?_
 try dsimp only [St.put]
 refine yB rfl rfl rfl ?_
 try dsimp only [St.put]
 refine yB rfl rfl rfl ?_
 refine yA rfl rfl ?_
 refine yN ?_
 dsimp only [St.put]
 refine K1 _ ?_
 refine yS fun _ K2 => ?_
 refine yS fun _ K3 => ?_
 refine yR ?_
 refine yF rfl rfl rfl rfl ?_
 refine yL rfl rfl rfl ?_
 refine yF rfl rfl rfl rfl ?_
 refine yL rfl rfl rfl ?_
 refine aa rfl (i0 rfl rfl rfl) ?_
 refine yN ?_
 dsimp only [St.put]
 refine K3 _ ?_
 refine ar rfl (fun hc => ?_) (fun hc => ?_)
 ·have h1 : a.ch ≠ b.ch := ka hc
  refine yS fun _ K4 => ?_
  refine yR ?_
  refine yF rfl rfl rfl rfl ?_
  refine yL rfl rfl rfl ?_
  refine yF rfl rfl rfl rfl ?_
  refine yL rfl rfl rfl ?_
  refine aa rfl (cj rfl rfl rfl) ?_
  refine yA rfl rfl ?_
  refine yN ?_
  dsimp only [St.put]
  refine K4 _ ?_
  refine aw ?_
  refine bg rfl (by constructor) zN zS ?_
  exact vb (by rw [decide_eq_decide, dl, dl, lt3]; omega)
 have h1 : a.ch = b.ch := jd hc
 refine ax ?_
 refine K2 _ ?_
 refine yS fun _ K5 => ?_
 refine yS fun _ K6 => ?_
 refine yR ?_
 refine yF rfl rfl rfl rfl ?_
 refine yL rfl rfl rfl ?_
 refine yF rfl rfl rfl rfl ?_
 refine yL rfl rfl rfl ?_
 refine aa rfl (i0 rfl rfl rfl) ?_
 refine yN ?_
 dsimp only [St.put]
 refine K6 _ ?_
 refine ar rfl (fun hc => ?_) (fun hc => ?_)
 ·have h2 : a.ln ≠ b.ln := ka hc
  refine yS fun _ K7 => ?_
  refine yR ?_
  refine yF rfl rfl rfl rfl ?_
  refine yL rfl rfl rfl ?_
  refine yF rfl rfl rfl rfl ?_
  refine yL rfl rfl rfl ?_
  refine aa rfl (cj rfl rfl rfl) ?_
  refine yA rfl rfl ?_
  refine yN ?_
  dsimp only [St.put]
  refine K7 _ ?_
  refine aw ?_
  refine bg rfl (by constructor) zN zS ?_
  exact vb (by rw [decide_eq_decide, dl, dl, lt3]; omega)
 have h2 : a.ln = b.ln := jd hc
 refine ax ?_
 refine K5 _ ?_
 refine yS fun _ K8 => ?_
 refine yR ?_
 refine yF rfl rfl rfl rfl ?_
 refine yL rfl rfl rfl ?_
 refine yF rfl rfl rfl rfl ?_
 refine yL rfl rfl rfl ?_
 refine aa rfl (cj rfl rfl rfl) ?_
 refine yA rfl rfl ?_
 refine yN ?_
 dsimp only [St.put]
 refine K8 _ ?_
 refine aw ?_
 refine bg rfl (by constructor) zN zS ?_
 exact vb (by rw [decide_eq_decide, dl, dl, lt3]; omega)
end Go.Proofs.YtgffhbbcpgdjjaaDoor
namespace Go.Proofs.YtgffhbbcpgdjjaaDoor
set_option maxRecDepth 10000
open Go.RowKit Go.AB
open Go.AB.Enc (cells)
open Go.PB (ay ak PlaceD bi bk bj bz av aq cy cx dp dm)
set_option maxHeartbeats 1000000 in
theorem ubh (t : ak) (x : av) (r : Int) (l : List PlaceD) (ht : dv t = true) : Pure Tryd.prog 73 [fj t, val x, .v (.int .i64 r), lst l] (.v (.bool (ig t x r l))) := by
 refine cz Tryd.func73 rfl (fun m => .v) fun G nx => ?_
 simp only [Tryd.ntmps73, List.length_cons, List.length_nil, Nat.reduceAdd, Nat.reduceSub]
 refine ci fun hlt => ?_
 dsimp only at hlt
 refine kd 3 (fun hfl => ?_)
 have hl0 := (fit_lst.1 hfl).1
 refine yS fun _ K1 => ?_
 refine yR ?_
 try dsimp only [St.put]
 refine yB rfl rfl rfl ?_
 try dsimp only [St.put]
 refine yB rfl rfl rfl ?_
 refine yA rfl rfl ?_
 refine yN ?_
 dsimp only [St.put]
 refine K1 _ ?_
 refine yS fun _ K2 => ?_
 refine yS fun _ K3 => ?_
 refine yR ?_
 refine yM rfl rfl ?_
 refine aa rfl (cj rfl rfl rfl) ?_
 refine eo (fun hs => ?_) (fun hs => ?_)
 ·have s1 : r < 0 := of_decide_eq_true hs
  refine yM rfl rfl ?_
  refine yM rfl rfl ?_
  refine aa rfl (ba rfl rfl (List.length_map _)) ?_
  refine aa rfl (iu rfl rfl rfl) ?_
  refine aa rfl (cm rfl rfl (by constructor)) ?_
  refine yN ?_
  dsimp only [St.put]
  refine K3 _ ?_
  refine ar rfl (fun hc => ?_) (fun hc => ?_)
  ·have s2 : 0 < l.length := by
    have := of_decide_eq_true hc
    omega
   refine yS fun _ K4 => ?_
   refine yR ?_
   refine yA rfl rfl ?_
   refine yN ?_
   dsimp only [St.put]
   refine K4 _ ?_
   refine aw ?_
   refine bg rfl (by constructor) zN zS ?_
   exact vb (by
    have e1 : ¬ 0 ≤ r := by omega
    have e2 : l ≠ [] := fun e => by rw [e] at s2; exact absurd s2 (by simp)
    simp [ig, e1, e2])
  have s3 : (decide (0 ≤ r) || decide (l = [])) = true := by
   first
   | (rw [decide_eq_true (show 0 ≤ r by omega)]; rfl)
   | (have := of_decide_eq_false hc
      have : l = [] := List.eq_nil_of_length_eq_zero (by omega)
      simp [this])
  refine ax ?_
  refine K2 _ ?_
  refine yS fun _ K5 => ?_
  refine yS fun _ K6 => ?_
  refine yR ?_
  refine yA rfl rfl ?_
  refine yN ?_
  dsimp only [St.put]
  refine K6 _ ?_
  refine az ?_
  refine ck 10 ?_
  refine zQ ?_
  refine c6 (G) zX ?_
  dsimp only
  refine c5 (X := Nat) (fun i => i ≤ l.length ∧ d9 t x l i = true) (fun i => l.length - i) (fun i => [(9, .v (.int .i64 (i : Int)))]) (fun i G' => G') 0 rfl ?_ ?_ (fun _ _ h => h) ?_ ?_ ?_
  ·exact ⟨Nat.zero_le _, rfl⟩
  ·exact zF
  ·rintro i hI
   exact zL
  ·exact fun _ _ _ _ h => .inl h
  rintro i hI
  dsimp only at hI ⊢
  refine yS fun _ K7 => ?_
  refine yS fun _ K8 => ?_
  refine yR ?_
  refine yM rfl rfl ?_
  refine yM rfl rfl ?_
  refine aa rfl (ba rfl rfl (List.length_map _)) ?_
  refine aa rfl (cj rfl rfl rfl) ?_
  refine yN ?_
  dsimp only [St.put]
  refine K8 _ ?_
  refine ar rfl (fun hc => ?_) (fun hc => ?_)
  ·replace hc := of_decide_eq_true hc
   obtain ⟨q, hq⟩ : ∃ q, l[i]? = some q := da (by omega)
   refine ax ?_
   refine K7 _ ?_
   refine yS fun _ K9 => ?_
   refine az ?_
   refine ck 10 ?_
   refine zQ ?_
   refine km (X := Bool) (fun d => jr t x l i = !d) (fun d => [(60, .v (.bool d))]) (fun d G' => G') rfl ?_ (fun _ _ _ _ h => .inl h) ?_ ?_
   ·rintro d hI
    exact zL
   ·refine pn [(0, none), (1, none), (2, none), (3, none), (4, none)] (fun _ => false) (fun i => [1, 2, 3].contains i) 33 (rl [5, 33]) (by kernel_rfl) (by kernel_rfl) ?_
    try dsimp only [St.put]
    refine ah rfl rfl rfl rfl (bv rfl rfl rfl) ?_
    refine xM rfl rfl rfl rfl rfl ?_
    refine xM rfl rfl rfl rfl rfl ?_
    try dsimp only [St.put]
    refine ae rfl rfl rfl rfl (bn rfl rfl rfl rfl (bp (by assumption)) (Enc.len _)) ?_
    try dsimp only [St.put]
    refine ah rfl rfl rfl rfl (bv rfl rfl (Enc.len _)) ?_
    refine cc ?_
    refine ca [5] (by kernel_rfl) (by simp) ?_
    refine br ?_ ?_
    ·try dsimp only [St.put]
     refine cn rfl rfl rfl (bq rfl rfl rfl (ufb t q ht) ?_)
     refine dw [(6, none), (7, none), (8, none), (9, none), (10, none), (11, none), (12, none), (14, none), (15, none), (16, none), (17, none)] (fun i => [6, 7, 9, 10, 11, 14, 16].contains i) 21 (rl [13, 1, 4, 20]) (by kernel_rfl) ?_
     refine ae rfl rfl rfl rfl (ef rfl rfl) ?_
     refine j8 (fun hs => ?_) (fun hs => ?_)
     ·have s4 := hs
      refine xM rfl rfl rfl rfl rfl ?_
      refine am rfl rfl rfl ?_
      refine am rfl rfl rfl ?_
      refine am rfl rfl rfl ?_
      refine am rfl rfl rfl ?_
      refine am rfl rfl rfl ?_
      refine am rfl rfl rfl ?_
      refine am rfl rfl rfl ?_
      refine am rfl rfl rfl ?_
      refine am rfl rfl rfl ?_
      refine cc ?_
      refine ca [13] (by kernel_rfl) (by simp) ?_
      refine br ?_ ?_
      ·refine gk rfl rfl rfl ?_
       refine ca [18] (by kernel_rfl) (by simp) ?_
       refine br ?_ ?_
       ·refine gk rfl rfl rfl ?_
        refine dw [(19, none), (20, none), (21, none), (22, none), (23, none), (24, none), (25, none), (26, none), (27, none), (28, none), (29, none), (30, none), (31, none), (32, none), (33, none)] (fun i => [19, 20, 21, 22, 23, 24, 25, 26, 27, 28, 30, 31, 32].contains i) 4 (rl [34, 4]) (by kernel_rfl) ?_
        refine am rfl rfl rfl ?_
        refine ae rfl rfl rfl rfl (cm rfl rfl (by constructor)) ?_
        refine xM rfl rfl rfl rfl rfl ?_
        refine am rfl rfl rfl ?_
        refine am rfl rfl rfl ?_
        refine am rfl rfl rfl ?_
        refine am rfl rfl rfl ?_
        refine am rfl rfl rfl ?_
        refine am rfl rfl rfl ?_
        refine am rfl rfl rfl ?_
        refine am rfl rfl rfl ?_
        refine am rfl rfl rfl ?_
        refine am rfl rfl rfl ?_
        refine am rfl rfl rfl ?_
        refine am rfl rfl rfl ?_
        refine cc ?_
        refine ca [34] (by kernel_rfl) (by simp) ?_
        refine br ?_ ?_
        ·refine gk rfl rfl rfl ?_
         refine dw [(35, none), (36, none), (37, none)] (fun i => [35, 36, 37].contains i) 0 (rl [38]) (by kernel_rfl) ?_
         refine am rfl rfl rfl ?_
         refine am rfl rfl rfl ?_
         refine ae rfl rfl rfl rfl (cm rfl rfl (by constructor)) ?_
         refine cc ?_
         dsimp only [St.put]
         refine e8 (by kernel_rfl) ?_
         refine ⟨_, ?_, ⟨⟨rfl, rfl⟩, zF, zB, zN, zX⟩⟩
         simp_all [jr, fw, m5]
         try (intro h0; omega)
        exact cb
       exact cb
      exact cb
     have hqp : f9 t q = true := by simpa using hs
     refine xM rfl rfl rfl rfl rfl ?_
     try dsimp only [St.put]
     refine ah rfl rfl rfl rfl (bv rfl rfl rfl) ?_
     refine xM rfl rfl rfl rfl rfl ?_
     refine xM rfl rfl rfl rfl rfl ?_
     try dsimp only [St.put]
     refine ae rfl rfl rfl rfl (bn rfl rfl rfl rfl (bp (by assumption)) (Enc.len _)) ?_
     try dsimp only [St.put]
     refine ah rfl rfl rfl rfl (bv rfl rfl (Enc.len _)) ?_
     refine ae rfl rfl rfl rfl (bw rfl rfl rfl) ?_
     try dsimp only [St.put]
     refine ah rfl rfl rfl rfl (bf rfl rfl) ?_
     refine ae rfl rfl rfl rfl (bw rfl rfl rfl) ?_
     try dsimp only [St.put]
     refine ah rfl rfl rfl rfl (bf rfl rfl) ?_
     refine cc ?_
     refine ca [13] (by kernel_rfl) (by simp) ?_
     refine br ?_ ?_
     ·try dsimp only [St.put]
      refine cn rfl rfl rfl (bq rfl rfl rfl (xv t q ht hqp) ?_)
      refine ca [18] (by kernel_rfl) (by simp) ?_
      refine br ?_ ?_
      ·try dsimp only [St.put]
       refine cn rfl rfl rfl (bq rfl rfl rfl (pt _ _ _) ?_)
       refine dw [(19, none), (20, none), (21, none), (22, none), (23, none), (24, none), (25, none), (26, none), (27, none), (28, none), (29, none), (30, none), (31, none), (32, none), (33, none)] (fun i => [19, 20, 21, 22, 23, 24, 25, 26, 27, 28, 30, 31, 32].contains i) 4 (rl [34, 4]) (by kernel_rfl) ?_
       refine ae rfl rfl rfl rfl (ef rfl rfl) ?_
       refine j8 (fun hs => ?_) (fun hs => ?_)
       ·have s5 := hs
        refine ae rfl rfl rfl rfl (ce rfl rfl (by constructor)) ?_
        refine xM rfl rfl rfl rfl rfl ?_
        refine am rfl rfl rfl ?_
        refine am rfl rfl rfl ?_
        refine am rfl rfl rfl ?_
        refine am rfl rfl rfl ?_
        refine am rfl rfl rfl ?_
        refine am rfl rfl rfl ?_
        refine am rfl rfl rfl ?_
        refine am rfl rfl rfl ?_
        refine am rfl rfl rfl ?_
        refine am rfl rfl rfl ?_
        refine am rfl rfl rfl ?_
        refine am rfl rfl rfl ?_
        refine cc ?_
        refine ca [34] (by kernel_rfl) (by simp) ?_
        refine br ?_ ?_
        ·refine gk rfl rfl rfl ?_
         refine dw [(35, none), (36, none), (37, none)] (fun i => [35, 36, 37].contains i) 0 (rl [38]) (by kernel_rfl) ?_
         refine am rfl rfl rfl ?_
         refine am rfl rfl rfl ?_
         refine ae rfl rfl rfl rfl (cm rfl rfl (by constructor)) ?_
         refine cc ?_
         dsimp only [St.put]
         refine e8 (by kernel_rfl) ?_
         refine ⟨_, ?_, ⟨⟨rfl, rfl⟩, zF, zB, zN, zX⟩⟩
         simp_all [jr, fw, m5]
         try (intro h0; omega)
        exact cb
       have s5 := hs
       refine ae rfl rfl rfl rfl (ce rfl rfl (by constructor)) ?_
       refine xM rfl rfl rfl rfl rfl ?_
       refine xM rfl rfl rfl rfl rfl ?_
       refine ae rfl rfl rfl rfl (iu rfl rfl rfl) ?_
       refine j8 (fun hs => ?_) (fun hs => ?_)
       ·have s6 : 0 < i := by
         have := of_decide_eq_true hs
         omega
        obtain ⟨q0, hq0⟩ : ∃ q0, l[i - 1]? = some q0 := da (by omega)
        refine xM rfl rfl rfl rfl rfl ?_
        refine xM rfl rfl rfl rfl rfl ?_
        refine xM rfl rfl rfl rfl rfl ?_
        refine ae rfl rfl rfl rfl (io rfl rfl rfl (by omega)) ?_
        try dsimp only [St.put]
        refine ae rfl rfl rfl rfl (bn (k := i - 1) rfl rfl rfl (by omega) (bp hq0) (Enc.len _)) ?_
        try dsimp only [St.put]
        refine ah rfl rfl rfl rfl (bv rfl rfl (Enc.len _)) ?_
        refine xM rfl rfl rfl rfl rfl ?_
        refine xM rfl rfl rfl rfl rfl ?_
        try dsimp only [St.put]
        refine ae rfl rfl rfl rfl (bn rfl rfl rfl rfl (bp (by assumption)) (Enc.len _)) ?_
        try dsimp only [St.put]
        refine ah rfl rfl rfl rfl (bv rfl rfl (Enc.len _)) ?_
        refine cc ?_
        refine ca [34] (by kernel_rfl) (by simp) ?_
        refine br ?_ ?_
        ·try dsimp only [St.put]
         refine cn rfl rfl rfl (bq rfl rfl rfl (ufe q0 q) ?_)
         refine dw [(35, none), (36, none), (37, none)] (fun i => [35, 36, 37].contains i) 0 (rl [38]) (by kernel_rfl) ?_
         refine ae rfl rfl rfl rfl (ef rfl rfl) ?_
         refine ae rfl rfl rfl rfl (cm rfl rfl (by constructor)) ?_
         refine ae rfl rfl rfl rfl (ce rfl rfl (by constructor)) ?_
         refine cc ?_
         dsimp only [St.put]
         refine e8 (by kernel_rfl) ?_
         refine ⟨_, ?_, ⟨⟨rfl, rfl⟩, zF, zB, zN, zX⟩⟩
         simp_all [jr, fw, m5]
         try (intro h0; omega)
        exact cb
       have s6 : i = 0 := by
        have := of_decide_eq_false hs
        omega
       refine xM rfl rfl rfl rfl rfl ?_
       refine am rfl rfl rfl ?_
       refine am rfl rfl rfl ?_
       refine am rfl rfl rfl ?_
       refine am rfl rfl rfl ?_
       refine am rfl rfl rfl ?_
       refine am rfl rfl rfl ?_
       refine am rfl rfl rfl ?_
       refine am rfl rfl rfl ?_
       refine am rfl rfl rfl ?_
       refine cc ?_
       refine ca [34] (by kernel_rfl) (by simp) ?_
       refine br ?_ ?_
       ·refine gk rfl rfl rfl ?_
        refine dw [(35, none), (36, none), (37, none)] (fun i => [35, 36, 37].contains i) 0 (rl [38]) (by kernel_rfl) ?_
        refine am rfl rfl rfl ?_
        refine ae rfl rfl rfl rfl (ce rfl rfl (by constructor)) ?_
        refine ae rfl rfl rfl rfl (ce rfl rfl (by constructor)) ?_
        refine cc ?_
        dsimp only [St.put]
        refine e8 (by kernel_rfl) ?_
        refine ⟨_, ?_, ⟨⟨rfl, rfl⟩, zF, zB, zN, zX⟩⟩
        simp_all [jr, fw, m5]
        try (intro h0; omega)
       exact cb
      exact cb
     exact cb
    exact cb
   rintro d hst
   dsimp only at hst ⊢
   refine ar rfl (fun hc => ?_) (fun hc => ?_)
   ·skip
    refine yS fun _ K11 => ?_
    refine yR ?_
    refine yA rfl rfl ?_
    refine yN ?_
    dsimp only [St.put]
    refine K11 _ ?_
    refine aw ?_
    refine bg rfl (by constructor) zN zS ?_
    exact vb (by
     have e : jr t x l i = false := by rw [hst, hc]; rfl
     have : d9 t x l l.length = false := by
      refine List.all_eq_false.2 ⟨i, List.mem_range.2 (by omega), by rw [e]; simp⟩
     simp [ig, this])
   skip
   refine ax ?_
   refine K9 _ ?_
   refine yR ?_
   refine yM rfl rfl ?_
   refine aa rfl (bu rfl rfl rfl (by omega)) ?_
   refine yA rfl rfl ?_
   refine yN ?_
   dsimp only [St.put]
   exact ⟨i + 1, by omega, ⟨by omega, by rw [g8, hI.2, hst, hc]; rfl⟩, ⟨⟨rfl, rfl⟩, zF, zB, zN, zX⟩⟩
  replace hc := of_decide_eq_false hc
  obtain rfl : i = l.length := by omega
  refine cw ?_
  refine K5 _ ?_
  refine yS fun _ K12 => ?_
  refine yR ?_
  refine yA rfl rfl ?_
  refine yN ?_
  dsimp only [St.put]
  refine K12 _ ?_
  refine aw ?_
  refine bg rfl (by constructor) zN zS ?_
  exact vb (by
   unfold ig
   rw [hI.2, Bool.and_true]
   first
   | exact s3.symm
   | (have e1 : 0 ≤ r := by omega
      simp [e1]))
 have s1 : ¬ r < 0 := of_decide_eq_false hs
 refine yM rfl rfl ?_
 refine yK rfl ?_
 refine yK rfl ?_
 refine yK rfl ?_
 refine aa rfl (ce rfl rfl (by constructor)) ?_
 refine yN ?_
 dsimp only [St.put]
 refine K3 _ ?_
 refine ar rfl (fun h => by cases h) (fun _ => ?_)
 have s3 : (decide (0 ≤ r) || decide (l = [])) = true := by
  first
  | (rw [decide_eq_true (show 0 ≤ r by omega)]; rfl)
  | (have := of_decide_eq_false hc
     have : l = [] := List.eq_nil_of_length_eq_zero (by omega)
     simp [this])
 refine ax ?_
 refine K2 _ ?_
 refine yS fun _ K13 => ?_
 refine yS fun _ K14 => ?_
 refine yR ?_
 refine yA rfl rfl ?_
 refine yN ?_
 dsimp only [St.put]
 refine K14 _ ?_
 refine az ?_
 refine ck 10 ?_
 refine zQ ?_
 refine c6 (G) zX ?_
 dsimp only
 refine c5 (X := Nat) (fun i => i ≤ l.length ∧ d9 t x l i = true) (fun i => l.length - i) (fun i => [(9, .v (.int .i64 (i : Int)))]) (fun i G' => G') 0 rfl ?_ ?_ (fun _ _ h => h) ?_ ?_ ?_
 ·exact ⟨Nat.zero_le _, rfl⟩
 ·exact zF
 ·rintro i hI
  exact zL
 ·exact fun _ _ _ _ h => .inl h
 rintro i hI
 dsimp only at hI ⊢
 refine yS fun _ K15 => ?_
 refine yS fun _ K16 => ?_
 refine yR ?_
 refine yM rfl rfl ?_
 refine yM rfl rfl ?_
 refine aa rfl (ba rfl rfl (List.length_map _)) ?_
 refine aa rfl (cj rfl rfl rfl) ?_
 refine yN ?_
 dsimp only [St.put]
 refine K16 _ ?_
 refine ar rfl (fun hc => ?_) (fun hc => ?_)
 ·replace hc := of_decide_eq_true hc
  obtain ⟨q, hq⟩ : ∃ q, l[i]? = some q := da (by omega)
  refine ax ?_
  refine K15 _ ?_
  refine yS fun _ K17 => ?_
  refine az ?_
  refine ck 10 ?_
  refine zQ ?_
  refine km (X := Bool) (fun d => jr t x l i = !d) (fun d => [(60, .v (.bool d))]) (fun d G' => G') rfl ?_ (fun _ _ _ _ h => .inl h) ?_ ?_
  ·rintro d hI
   exact zL
  ·refine pn [(0, none), (1, none), (2, none), (3, none), (4, none)] (fun _ => false) (fun i => [1, 2, 3].contains i) 33 (rl [5, 33]) (by kernel_rfl) (by kernel_rfl) ?_
   try dsimp only [St.put]
   refine ah rfl rfl rfl rfl (bv rfl rfl rfl) ?_
   refine xM rfl rfl rfl rfl rfl ?_
   refine xM rfl rfl rfl rfl rfl ?_
   try dsimp only [St.put]
   refine ae rfl rfl rfl rfl (bn rfl rfl rfl rfl (bp (by assumption)) (Enc.len _)) ?_
   try dsimp only [St.put]
   refine ah rfl rfl rfl rfl (bv rfl rfl (Enc.len _)) ?_
   refine cc ?_
   refine ca [5] (by kernel_rfl) (by simp) ?_
   refine br ?_ ?_
   ·try dsimp only [St.put]
    refine cn rfl rfl rfl (bq rfl rfl rfl (ufb t q ht) ?_)
    refine dw [(6, none), (7, none), (8, none), (9, none), (10, none), (11, none), (12, none), (14, none), (15, none), (16, none), (17, none)] (fun i => [6, 7, 9, 10, 11, 14, 16].contains i) 21 (rl [13, 1, 4, 20]) (by kernel_rfl) ?_
    refine ae rfl rfl rfl rfl (ef rfl rfl) ?_
    refine j8 (fun hs => ?_) (fun hs => ?_)
    ·have s4 := hs
     refine xM rfl rfl rfl rfl rfl ?_
     refine am rfl rfl rfl ?_
     refine am rfl rfl rfl ?_
     refine am rfl rfl rfl ?_
     refine am rfl rfl rfl ?_
     refine am rfl rfl rfl ?_
     refine am rfl rfl rfl ?_
     refine am rfl rfl rfl ?_
     refine am rfl rfl rfl ?_
     refine am rfl rfl rfl ?_
     refine cc ?_
     refine ca [13] (by kernel_rfl) (by simp) ?_
     refine br ?_ ?_
     ·refine gk rfl rfl rfl ?_
      refine ca [18] (by kernel_rfl) (by simp) ?_
      refine br ?_ ?_
      ·refine gk rfl rfl rfl ?_
       refine dw [(19, none), (20, none), (21, none), (22, none), (23, none), (24, none), (25, none), (26, none), (27, none), (28, none), (29, none), (30, none), (31, none), (32, none), (33, none)] (fun i => [19, 20, 21, 22, 23, 24, 25, 26, 27, 28, 30, 31, 32].contains i) 4 (rl [34, 4]) (by kernel_rfl) ?_
       refine am rfl rfl rfl ?_
       refine ae rfl rfl rfl rfl (cm rfl rfl (by constructor)) ?_
       refine xM rfl rfl rfl rfl rfl ?_
       refine am rfl rfl rfl ?_
       refine am rfl rfl rfl ?_
       refine am rfl rfl rfl ?_
       refine am rfl rfl rfl ?_
       refine am rfl rfl rfl ?_
       refine am rfl rfl rfl ?_
       refine am rfl rfl rfl ?_
       refine am rfl rfl rfl ?_
       refine am rfl rfl rfl ?_
       refine am rfl rfl rfl ?_
       refine am rfl rfl rfl ?_
       refine am rfl rfl rfl ?_
       refine cc ?_
       refine ca [34] (by kernel_rfl) (by simp) ?_
       refine br ?_ ?_
       ·refine gk rfl rfl rfl ?_
        refine dw [(35, none), (36, none), (37, none)] (fun i => [35, 36, 37].contains i) 0 (rl [38]) (by kernel_rfl) ?_
        refine am rfl rfl rfl ?_
        refine am rfl rfl rfl ?_
        refine ae rfl rfl rfl rfl (cm rfl rfl (by constructor)) ?_
        refine cc ?_
        dsimp only [St.put]
        refine e8 (by kernel_rfl) ?_
        refine ⟨_, ?_, ⟨⟨rfl, rfl⟩, zF, zB, zN, zX⟩⟩
        simp_all [jr, fw, m5]
        try (intro h0; omega)
       exact cb
      exact cb
     exact cb
    have hqp : f9 t q = true := by simpa using hs
    refine xM rfl rfl rfl rfl rfl ?_
    try dsimp only [St.put]
    refine ah rfl rfl rfl rfl (bv rfl rfl rfl) ?_
    refine xM rfl rfl rfl rfl rfl ?_
    refine xM rfl rfl rfl rfl rfl ?_
    try dsimp only [St.put]
    refine ae rfl rfl rfl rfl (bn rfl rfl rfl rfl (bp (by assumption)) (Enc.len _)) ?_
    try dsimp only [St.put]
    refine ah rfl rfl rfl rfl (bv rfl rfl (Enc.len _)) ?_
    refine ae rfl rfl rfl rfl (bw rfl rfl rfl) ?_
    try dsimp only [St.put]
    refine ah rfl rfl rfl rfl (bf rfl rfl) ?_
    refine ae rfl rfl rfl rfl (bw rfl rfl rfl) ?_
    try dsimp only [St.put]
    refine ah rfl rfl rfl rfl (bf rfl rfl) ?_
    refine cc ?_
    refine ca [13] (by kernel_rfl) (by simp) ?_
    refine br ?_ ?_
    ·try dsimp only [St.put]
     refine cn rfl rfl rfl (bq rfl rfl rfl (xv t q ht hqp) ?_)
     refine ca [18] (by kernel_rfl) (by simp) ?_
     refine br ?_ ?_
     ·try dsimp only [St.put]
      refine cn rfl rfl rfl (bq rfl rfl rfl (pt _ _ _) ?_)
      refine dw [(19, none), (20, none), (21, none), (22, none), (23, none), (24, none), (25, none), (26, none), (27, none), (28, none), (29, none), (30, none), (31, none), (32, none), (33, none)] (fun i => [19, 20, 21, 22, 23, 24, 25, 26, 27, 28, 30, 31, 32].contains i) 4 (rl [34, 4]) (by kernel_rfl) ?_
      refine ae rfl rfl rfl rfl (ef rfl rfl) ?_
      refine j8 (fun hs => ?_) (fun hs => ?_)
      ·have s5 := hs
       refine ae rfl rfl rfl rfl (ce rfl rfl (by constructor)) ?_
       refine xM rfl rfl rfl rfl rfl ?_
       refine am rfl rfl rfl ?_
       refine am rfl rfl rfl ?_
       refine am rfl rfl rfl ?_
       refine am rfl rfl rfl ?_
       refine am rfl rfl rfl ?_
       refine am rfl rfl rfl ?_
       refine am rfl rfl rfl ?_
       refine am rfl rfl rfl ?_
       refine am rfl rfl rfl ?_
       refine am rfl rfl rfl ?_
       refine am rfl rfl rfl ?_
       refine am rfl rfl rfl ?_
       refine cc ?_
       refine ca [34] (by kernel_rfl) (by simp) ?_
       refine br ?_ ?_
       ·refine gk rfl rfl rfl ?_
        refine dw [(35, none), (36, none), (37, none)] (fun i => [35, 36, 37].contains i) 0 (rl [38]) (by kernel_rfl) ?_
        refine am rfl rfl rfl ?_
        refine am rfl rfl rfl ?_
        refine ae rfl rfl rfl rfl (cm rfl rfl (by constructor)) ?_
        refine cc ?_
        dsimp only [St.put]
        refine e8 (by kernel_rfl) ?_
        refine ⟨_, ?_, ⟨⟨rfl, rfl⟩, zF, zB, zN, zX⟩⟩
        simp_all [jr, fw, m5]
        try (intro h0; omega)
       exact cb
      have s5 := hs
      refine ae rfl rfl rfl rfl (ce rfl rfl (by constructor)) ?_
      refine xM rfl rfl rfl rfl rfl ?_
      refine xM rfl rfl rfl rfl rfl ?_
      refine ae rfl rfl rfl rfl (iu rfl rfl rfl) ?_
      refine j8 (fun hs => ?_) (fun hs => ?_)
      ·have s6 : 0 < i := by
        have := of_decide_eq_true hs
        omega
       obtain ⟨q0, hq0⟩ : ∃ q0, l[i - 1]? = some q0 := da (by omega)
       refine xM rfl rfl rfl rfl rfl ?_
       refine xM rfl rfl rfl rfl rfl ?_
       refine xM rfl rfl rfl rfl rfl ?_
       refine ae rfl rfl rfl rfl (io rfl rfl rfl (by omega)) ?_
       try dsimp only [St.put]
       refine ae rfl rfl rfl rfl (bn (k := i - 1) rfl rfl rfl (by omega) (bp hq0) (Enc.len _)) ?_
       try dsimp only [St.put]
       refine ah rfl rfl rfl rfl (bv rfl rfl (Enc.len _)) ?_
       refine xM rfl rfl rfl rfl rfl ?_
       refine xM rfl rfl rfl rfl rfl ?_
       try dsimp only [St.put]
       refine ae rfl rfl rfl rfl (bn rfl rfl rfl rfl (bp (by assumption)) (Enc.len _)) ?_
       try dsimp only [St.put]
       refine ah rfl rfl rfl rfl (bv rfl rfl (Enc.len _)) ?_
       refine cc ?_
       refine ca [34] (by kernel_rfl) (by simp) ?_
       refine br ?_ ?_
       ·try dsimp only [St.put]
        refine cn rfl rfl rfl (bq rfl rfl rfl (ufe q0 q) ?_)
        refine dw [(35, none), (36, none), (37, none)] (fun i => [35, 36, 37].contains i) 0 (rl [38]) (by kernel_rfl) ?_
        refine ae rfl rfl rfl rfl (ef rfl rfl) ?_
        refine ae rfl rfl rfl rfl (cm rfl rfl (by constructor)) ?_
        refine ae rfl rfl rfl rfl (ce rfl rfl (by constructor)) ?_
        refine cc ?_
        dsimp only [St.put]
        refine e8 (by kernel_rfl) ?_
        refine ⟨_, ?_, ⟨⟨rfl, rfl⟩, zF, zB, zN, zX⟩⟩
        simp_all [jr, fw, m5]
        try (intro h0; omega)
       exact cb
      have s6 : i = 0 := by
       have := of_decide_eq_false hs
       omega
      refine xM rfl rfl rfl rfl rfl ?_
      refine am rfl rfl rfl ?_
      refine am rfl rfl rfl ?_
      refine am rfl rfl rfl ?_
      refine am rfl rfl rfl ?_
      refine am rfl rfl rfl ?_
      refine am rfl rfl rfl ?_
      refine am rfl rfl rfl ?_
      refine am rfl rfl rfl ?_
      refine am rfl rfl rfl ?_
      refine cc ?_
      refine ca [34] (by kernel_rfl) (by simp) ?_
      refine br ?_ ?_
      ·refine gk rfl rfl rfl ?_
       refine dw [(35, none), (36, none), (37, none)] (fun i => [35, 36, 37].contains i) 0 (rl [38]) (by kernel_rfl) ?_
       refine am rfl rfl rfl ?_
       refine ae rfl rfl rfl rfl (ce rfl rfl (by constructor)) ?_
       refine ae rfl rfl rfl rfl (ce rfl rfl (by constructor)) ?_
       refine cc ?_
       dsimp only [St.put]
       refine e8 (by kernel_rfl) ?_
       refine ⟨_, ?_, ⟨⟨rfl, rfl⟩, zF, zB, zN, zX⟩⟩
       simp_all [jr, fw, m5]
       try (intro h0; omega)
      exact cb
     exact cb
    exact cb
   exact cb
  rintro d hst
  dsimp only at hst ⊢
  refine ar rfl (fun hc => ?_) (fun hc => ?_)
  ·skip
   refine yS fun _ K19 => ?_
   refine yR ?_
   refine yA rfl rfl ?_
   refine yN ?_
   dsimp only [St.put]
   refine K19 _ ?_
   refine aw ?_
   refine bg rfl (by constructor) zN zS ?_
   exact vb (by
    have e : jr t x l i = false := by rw [hst, hc]; rfl
    have : d9 t x l l.length = false := by
     refine List.all_eq_false.2 ⟨i, List.mem_range.2 (by omega), by rw [e]; simp⟩
    simp [ig, this])
  skip
  refine ax ?_
  refine K17 _ ?_
  refine yR ?_
  refine yM rfl rfl ?_
  refine aa rfl (bu rfl rfl rfl (by omega)) ?_
  refine yA rfl rfl ?_
  refine yN ?_
  dsimp only [St.put]
  exact ⟨i + 1, by omega, ⟨by omega, by rw [g8, hI.2, hst, hc]; rfl⟩, ⟨⟨rfl, rfl⟩, zF, zB, zN, zX⟩⟩
 replace hc := of_decide_eq_false hc
 obtain rfl : i = l.length := by omega
 refine cw ?_
 refine K13 _ ?_
 refine yS fun _ K20 => ?_
 refine yR ?_
 refine yA rfl rfl ?_
 refine yN ?_
 dsimp only [St.put]
 refine K20 _ ?_
 refine aw ?_
 refine bg rfl (by constructor) zN zS ?_
 exact vb (by
  unfold ig
  rw [hI.2, Bool.and_true]
  first
  | exact s3.symm
  | (have e1 : 0 ≤ r := by omega
     simp [e1]))
end Go.Proofs.YtgffhbbcpgdjjaaDoor
namespace Go.AB
open Go Go.RowKit
open Go.AB.Enc (cells)
open Go.PB (ay ak PlaceD bi bk bj bz av aq cy cx dp dm)
def mu (p : aq) (last : Int) (x : av) : Bool := decide (last < x.fr) && decide (x.fr ≤ x.to) && decide (x.to < (mr p.text : Int)) && inB x.fst (-1) ((p.firsts.length : Int) - 1) && inB x.snd (-1) ((p.seconds.length : Int) - 1)
theorem ut (p : aq) (last : Int) (x : av) : l7 p last x = (mu p last x && (ig p.text x x.fst x.found && ig p.text x x.snd x.well)) := by
 unfold l7 mu
 cases decide (last < x.fr) <;> cases decide (x.fr ≤ x.to) <;> cases decide (x.to < (mr p.text : Int)) <;> cases inB x.fst (-1) ((p.firsts.length : Int) - 1) <;> cases inB x.snd (-1) ((p.seconds.length : Int) - 1) <;> simp
theorem xw {p : aq} {j : Nat} {x : av} (h : p.pages[j]? = some x) : sl p j = l7 p (ip p.pages j) x := by unfold sl; rw [h]
theorem ucy {l : List av} {j : Nat} {x : av} (h : l[j]? = some x) : ip l (j + 1) = x.to := by simp only [ip, h]
theorem ur {p : aq} {j : Nat} {x : av} (h : p.pages[j]? = some x) (hb : l7 p (ip p.pages j) x = false) : gj p = false := by
 have : px p p.pages.length = false := List.all_eq_false.2 ⟨j, List.mem_range.2 (List.getElem?_eq_some_iff.1 h).1, by rw [xw h, hb]; simp⟩
 simp [gj, this]
end Go.AB
namespace Go.Proofs.YtgffhbbcpgdjjaaDoor
set_option maxRecDepth 10000
open Go.RowKit Go.AB
open Go.AB.Enc (cells)
open Go.PB (ay ak PlaceD bi bk bj bz av aq cy cx dp dm)
set_option maxHeartbeats 2000000 in
theorem uh4 (p : aq) (ht : dv p.text = true) : Pure Tryd.prog 41 [val p] (.v (.bool (gj p))) := by
 refine cz Tryd.func41 rfl (fun m => .v) fun G nx => ?_
 simp only [Tryd.ntmps41, List.length_cons, List.length_nil, Nat.reduceAdd, Nat.reduceSub]
 refine ci fun hlt => ?_
 dsimp only at hlt
 refine yS fun _ K1 => ?_
 refine yR ?_
 try dsimp only [St.put]
 refine yB rfl rfl rfl ?_
 refine yA rfl rfl ?_
 refine yN ?_
 dsimp only [St.put]
 refine K1 _ ?_
 refine yS fun _ K2 => ?_
 refine yS fun _ K3 => ?_
 refine yR ?_
 refine yF rfl rfl rfl rfl ?_
 refine yL rfl rfl rfl ?_
 refine aa rfl (ba rfl rfl (List.length_map _)) ?_
 refine aa rfl (iu rfl rfl rfl) ?_
 refine eo (fun hs => ?_) (fun hs => ?_)
 ·have s1 : ¬ p.firsts.length ≤ 3 := by
   have := of_decide_eq_true hs
   omega
  refine yM rfl rfl ?_
  refine yK rfl ?_
  refine yK rfl ?_
  refine yK rfl ?_
  refine yK rfl ?_
  refine aa rfl (cm rfl rfl (by constructor)) ?_
  refine yM rfl rfl ?_
  refine yK rfl ?_
  refine yK rfl ?_
  refine yK rfl ?_
  refine yK rfl ?_
  refine aa rfl (cm rfl rfl (by constructor)) ?_
  refine yN ?_
  dsimp only [St.put]
  refine K3 _ ?_
  refine ar rfl (fun _ => ?_) (fun h => by cases h)
  refine yS fun _ K4 => ?_
  refine yR ?_
  refine yA rfl rfl ?_
  refine yN ?_
  dsimp only [St.put]
  refine K4 _ ?_
  refine aw ?_
  refine bg rfl (by constructor) zN zS ?_
  exact vb (by first | (simp [gj, jx, s1]; done) | (simp [gj, jx, s2]; done) | (simp [gj, s3]; done))
 have s1 : p.firsts.length ≤ 3 := by
  have := of_decide_eq_false hs
  omega
 refine yM rfl rfl ?_
 refine yF rfl rfl rfl rfl ?_
 refine yL rfl rfl rfl ?_
 refine aa rfl (ba rfl rfl (List.length_map _)) ?_
 refine aa rfl (iu rfl rfl rfl) ?_
 refine eo (fun hs => ?_) (fun hs => ?_)
 ·have s2 : ¬ p.seconds.length ≤ 3 := by
   have := of_decide_eq_true hs
   omega
  refine aa rfl (ce rfl rfl (by constructor)) ?_
  refine yM rfl rfl ?_
  refine yK rfl ?_
  refine yK rfl ?_
  refine yK rfl ?_
  refine yK rfl ?_
  refine aa rfl (cm rfl rfl (by constructor)) ?_
  refine yN ?_
  dsimp only [St.put]
  refine K3 _ ?_
  refine ar rfl (fun _ => ?_) (fun h => by cases h)
  refine yS fun _ K5 => ?_
  refine yR ?_
  refine yA rfl rfl ?_
  refine yN ?_
  dsimp only [St.put]
  refine K5 _ ?_
  refine aw ?_
  refine bg rfl (by constructor) zN zS ?_
  exact vb (by first | (simp [gj, jx, s1]; done) | (simp [gj, jx, s2]; done) | (simp [gj, s3]; done))
 have s2 : p.seconds.length ≤ 3 := by
  have := of_decide_eq_false hs
  omega
 refine aa rfl (ce rfl rfl (by constructor)) ?_
 refine yM rfl rfl ?_
 refine yF rfl rfl rfl rfl ?_
 refine yL rfl rfl rfl ?_
 refine aa rfl (ba rfl rfl (List.length_map _)) ?_
 refine aa rfl (iu rfl rfl rfl) ?_
 refine eo (fun hs => ?_) (fun hs => ?_)
 ·have s3 : ¬ p.pages.length ≤ 8 := by
   have := of_decide_eq_true hs
   omega
  refine aa rfl (ce rfl rfl (by constructor)) ?_
  refine yN ?_
  dsimp only [St.put]
  refine K3 _ ?_
  refine ar rfl (fun _ => ?_) (fun h => by cases h)
  refine yS fun _ K6 => ?_
  refine yR ?_
  refine yA rfl rfl ?_
  refine yN ?_
  dsimp only [St.put]
  refine K6 _ ?_
  refine aw ?_
  refine bg rfl (by constructor) zN zS ?_
  exact vb (by first | (simp [gj, jx, s1]; done) | (simp [gj, jx, s2]; done) | (simp [gj, s3]; done))
 have s3 : p.pages.length ≤ 8 := by
  have := of_decide_eq_false hs
  omega
 obtain ⟨A, hA⟩ : ∃ A, p.firsts ++ p.seconds = A := ⟨_, rfl⟩
 have hAl : A.length ≤ 6 := by rw [← hA, List.length_append]; omega
 refine aa rfl (ce rfl rfl (by constructor)) ?_
 refine yN ?_
 dsimp only [St.put]
 refine K3 _ ?_
 refine ar rfl (fun h => by cases h) (fun _ => ?_)
 refine ax ?_
 refine K2 _ ?_
 refine yS fun _ K7 => ?_
 refine yR ?_
 refine yA rfl rfl ?_
 refine yN ?_
 dsimp only [St.put]
 refine K7 _ ?_
 refine ueu 3 71 2 rfl (by decide) ?_
 refine yS fun _ K8 => ?_
 refine fm [(0, none), (1, none), (2, none), (4, none), (5, none), (3, none), (6, none), (7, none)] (fun i => [6].contains i) (fun i => [3, 6].contains i) (fun i => [0, 1, 4, 7].contains i) [] (by kernel_rfl) (by kernel_rfl) ?_
 refine xM rfl rfl rfl rfl rfl ?_
 refine ae rfl rfl rfl rfl (bw rfl rfl rfl) ?_
 try dsimp only [St.put]
 refine ah rfl rfl rfl rfl (bf rfl rfl) ?_
 refine ae rfl rfl rfl rfl (bw rfl rfl rfl) ?_
 try dsimp only [St.put]
 refine ah rfl rfl rfl rfl (bf rfl rfl) ?_
 refine il ?_
 try dsimp only [St.put]
 refine ib rfl rfl rfl (fu (xs := ([] : List bz)) p.firsts rfl rfl zG rfl rfl rfl rfl zA zA (fun v1 => ⟨zD, ?_⟩))
 try dsimp only [St.put]
 refine ib rfl rfl rfl (fu (xs := ([] : List bz) ++ p.firsts) p.seconds rfl rfl zG rfl rfl rfl rfl zA zA (fun v2 => ⟨zD, ?_⟩))
 refine ep rfl rfl rfl rfl (du rfl (by constructor)) ?_
 refine ij ?_
 dsimp only [St.put]
 refine K8 _ ?_
 refine zm 3 (([] : List bz) ++ p.firsts ++ p.seconds) rfl zG rfl rfl rfl ?_
 refine c6 G zX ?_
 dsimp only
 rw [show ([] : List bz) ++ p.firsts ++ p.seconds = A from hA]
 refine yS fun _ K9 => ?_
 refine yS fun _ K10 => ?_
 refine yR ?_
 refine yA rfl rfl ?_
 refine yN ?_
 dsimp only [St.put]
 refine K10 _ ?_
 refine az ?_
 refine ck 9 ?_
 refine zQ ?_
 refine c6 (G) zX ?_
 dsimp only
 refine c5 (X := Nat) (fun i => i ≤ A.length ∧ (A.take i).all gu = true ∧ ((A.take i).map (·.id)).Nodup) (fun i => A.length - i) (fun i => [(4, .v (.int .i64 (i : Int))), (5, .any)]) (fun i G' => G') 0 rfl ?_ ?_ (fun _ _ h => h) ?_ ?_ ?_
 ·exact ⟨Nat.zero_le _, rfl, by simp⟩
 ·exact zF
 ·rintro i hI
  exact zL
 ·exact fun _ _ _ _ h => .inl h
 rintro i hI
 dsimp only at hI ⊢
 refine yS fun _ K11 => ?_
 refine yS fun _ K12 => ?_
 refine yR ?_
 refine yM rfl rfl ?_
 refine yM rfl rfl ?_
 refine aa rfl (ba rfl rfl (List.length_map _)) ?_
 refine aa rfl (cj rfl rfl rfl) ?_
 refine yN ?_
 dsimp only [St.put]
 refine K12 _ ?_
 refine ar rfl (fun hc => ?_) (fun hc => ?_)
 ·replace hc := of_decide_eq_true hc
  obtain ⟨r, hr⟩ : ∃ r, A[i]? = some r := da (by omega)
  refine ax ?_
  refine K11 _ ?_
  refine yS fun _ K13 => ?_
  refine az ?_
  refine yS fun _ K14 => ?_
  refine yS fun _ K15 => ?_
  refine yR ?_
  refine yM rfl rfl ?_
  refine yM rfl rfl ?_
  refine aa rfl (bn rfl rfl rfl rfl (bp (by assumption)) (Enc.len _)) ?_
  refine yF rfl rfl rfl rfl ?_
  refine yL rfl rfl rfl ?_
  try dsimp only [St.put]
  refine aj rfl (bq rfl rfl rfl (pt _ _ _) ?_)
  refine aa rfl (ef rfl rfl) ?_
  refine eo (fun hs => ?_) (fun hs => ?_)
  ·have q1 : inB r.id 0 9999 = false := by simpa using hs
   refine yM rfl rfl ?_
   refine yK rfl ?_
   refine yK rfl ?_
   refine yK rfl ?_
   refine yK rfl ?_
   refine yK rfl ?_
   refine yK rfl ?_
   refine yK rfl ?_
   refine aa rfl (cm rfl rfl (by constructor)) ?_
   refine yN ?_
   dsimp only [St.put]
   refine K15 _ ?_
   refine ar rfl (fun _ => ?_) (fun h => by cases h)
   refine yS fun _ K16 => ?_
   refine yR ?_
   refine yA rfl rfl ?_
   refine yN ?_
   dsimp only [St.put]
   refine K16 _ ?_
   refine aw ?_
   refine bg rfl (by constructor) zN zS ?_
   exact vb (by
    have hb : gu r = false := by first | (simp [gu, q1]; done) | (simp [gu, q2]; done)
    have : A.all gu = false := ko hr hb
    rw [← hA] at this
    simp only [gj, jx, this, Bool.and_false, Bool.false_and])
  have q1 : inB r.id 0 9999 = true := by simpa using hs
  refine yM rfl rfl ?_
  refine yM rfl rfl ?_
  refine yM rfl rfl ?_
  refine aa rfl (bn rfl rfl rfl rfl (bp (by assumption)) (Enc.len _)) ?_
  refine yF rfl rfl rfl rfl ?_
  refine yL rfl rfl rfl ?_
  try dsimp only [St.put]
  refine aj rfl (bq rfl rfl rfl (pt _ _ _) ?_)
  refine aa rfl (ef rfl rfl) ?_
  refine eo (fun hs => ?_) (fun hs => ?_)
  ·have q2 : inB r.miss 0 90 = false := by simpa using hs
   refine aa rfl (ce rfl rfl (by constructor)) ?_
   refine yN ?_
   dsimp only [St.put]
   refine K15 _ ?_
   refine ar rfl (fun _ => ?_) (fun h => by cases h)
   refine yS fun _ K17 => ?_
   refine yR ?_
   refine yA rfl rfl ?_
   refine yN ?_
   dsimp only [St.put]
   refine K17 _ ?_
   refine aw ?_
   refine bg rfl (by constructor) zN zS ?_
   exact vb (by
    have hb : gu r = false := by first | (simp [gu, q1]; done) | (simp [gu, q2]; done)
    have : A.all gu = false := ko hr hb
    rw [← hA] at this
    simp only [gj, jx, this, Bool.and_false, Bool.false_and])
  have q2 : inB r.miss 0 90 = true := by simpa using hs
  have hrb : gu r = true := by simp [gu, q1, q2]
  refine aa rfl (ce rfl rfl (by constructor)) ?_
  refine yN ?_
  dsimp only [St.put]
  refine K15 _ ?_
  refine ar rfl (fun h => by cases h) (fun _ => ?_)
  refine ax ?_
  refine K14 _ ?_
  refine yS fun _ K18 => ?_
  refine yR ?_
  refine yA rfl rfl ?_
  refine yN ?_
  dsimp only [St.put]
  refine K18 _ ?_
  refine az ?_
  refine ck 9 ?_
  refine zQ ?_
  refine c6 (G) zX ?_
  dsimp only
  refine c5 (X := Nat) (fun k => k ≤ i ∧ ∀ y ∈ A.take k, y.id ≠ r.id) (fun k => i - k) (fun k => [(5, .v (.int .i64 (k : Int)))]) (fun k G' => G') 0 rfl ?_ ?_ (fun _ _ h => h) ?_ ?_ ?_
  ·exact ⟨Nat.zero_le _, by simp⟩
  ·exact zF
  ·rintro k hI
   exact zL
  ·exact fun _ _ _ _ h => .inl h
  rintro k hJ
  dsimp only at hJ ⊢
  refine yS fun _ K19 => ?_
  refine yS fun _ K20 => ?_
  refine yR ?_
  refine yM rfl rfl ?_
  refine yM rfl rfl ?_
  refine aa rfl (cj rfl rfl rfl) ?_
  refine yN ?_
  dsimp only [St.put]
  refine K20 _ ?_
  refine ar rfl (fun hc => ?_) (fun hc => ?_)
  ·replace hc := of_decide_eq_true hc
   obtain ⟨y, hy⟩ : ∃ y, A[k]? = some y := da (by omega)
   refine ax ?_
   refine K19 _ ?_
   refine yS fun _ K21 => ?_
   refine az ?_
   refine yS fun _ K22 => ?_
   refine fm [(0, none), (1, none), (2, none), (3, none), (4, none), (5, none), (6, none), (7, none), (8, none), (9, none), (10, none)] (fun i => [].contains i) (fun i => [].contains i) (fun i => [0, 1, 2, 3, 5, 6, 7, 8, 10].contains i) [] (by kernel_rfl) (by kernel_rfl) ?_
   refine xM rfl rfl rfl rfl rfl ?_
   refine xM rfl rfl rfl rfl rfl ?_
   try dsimp only [St.put]
   refine ae rfl rfl rfl rfl (bn rfl rfl rfl rfl (bp (by assumption)) (Enc.len _)) ?_
   refine ae rfl rfl rfl rfl (bw rfl rfl rfl) ?_
   try dsimp only [St.put]
   refine ah rfl rfl rfl rfl (bf rfl rfl) ?_
   refine xM rfl rfl rfl rfl rfl ?_
   refine xM rfl rfl rfl rfl rfl ?_
   try dsimp only [St.put]
   refine ae rfl rfl rfl rfl (bn rfl rfl rfl rfl (bp (by assumption)) (Enc.len _)) ?_
   refine ae rfl rfl rfl rfl (bw rfl rfl rfl) ?_
   try dsimp only [St.put]
   refine ah rfl rfl rfl rfl (bf rfl rfl) ?_
   refine ae rfl rfl rfl rfl (lv rfl rfl rfl) ?_
   refine cc ?_
   dsimp only [St.put]
   refine K22 _ ?_
   refine ar rfl (fun hc => ?_) (fun hc => ?_)
   ·have hyr : y.id = r.id := of_decide_eq_true hc
    refine yS fun _ K23 => ?_
    refine yR ?_
    refine yA rfl rfl ?_
    refine yN ?_
    dsimp only [St.put]
    refine K23 _ ?_
    refine aw ?_
    refine bg rfl (by constructor) zN zS ?_
    exact vb (by
     have : ¬ (A.map (·.id)).Nodup := ya hy hr (by omega) hyr
     rw [← hA] at this
     simp only [gj, jx, decide_eq_false this, Bool.and_false, Bool.false_and])
   have hne : y.id ≠ r.id := of_decide_eq_false hc
   refine ax ?_
   refine K21 _ ?_
   refine yR ?_
   refine yM rfl rfl ?_
   refine aa rfl (bu rfl rfl rfl (by omega)) ?_
   refine yA rfl rfl ?_
   refine yN ?_
   dsimp only [St.put]
   exact ⟨k + 1, by omega, ⟨by omega, yh (p := fun y : bz => y.id ≠ r.id) hy hne hJ.2⟩, ⟨⟨rfl, rfl⟩, zF, zB, zN, zX⟩⟩
  replace hc := of_decide_eq_false hc
  have hki : k = i := by omega
  rw [hki] at hJ
  have hnd : r.id ∉ (A.take i).map (·.id) := fun hm => by
   obtain ⟨y, hy1, hy2⟩ := List.mem_map.1 hm
   exact hJ.2 y hy1 hy2
  refine cw ?_
  refine K13 _ ?_
  refine yR ?_
  refine yM rfl rfl ?_
  refine aa rfl (bu rfl rfl rfl (by omega)) ?_
  refine yA rfl rfl ?_
  refine yN ?_
  dsimp only [St.put]
  exact ⟨i + 1, by omega, ⟨by omega, by rw [qg hr, hI.2.1, hrb]; rfl, by rw [pc hr]; exact yb hI.2.2 hnd⟩, ⟨⟨rfl, rfl⟩, zF, zB, zN, zX⟩⟩
 replace hc := of_decide_eq_false hc
 have hRB : jx p = true := by
  have h1 := hI.2.1
  have h2 := hI.2.2
  rw [ff (show A.length ≤ i by omega), ← hA] at h1 h2
  unfold jx
  rw [h1, decide_eq_true h2, decide_eq_true s1, decide_eq_true s2]; rfl
 refine cw ?_
 refine K9 _ ?_
 refine yS fun _ K24 => ?_
 refine yR ?_
 refine yA rfl rfl ?_
 refine yN ?_
 dsimp only [St.put]
 refine K24 _ ?_
 refine yS fun _ K25 => ?_
 refine yS fun _ K26 => ?_
 refine yR ?_
 refine yA rfl rfl ?_
 refine yN ?_
 dsimp only [St.put]
 refine K26 _ ?_
 refine az ?_
 refine ck 9 ?_
 refine zQ ?_
 refine c6 (G) zX ?_
 dsimp only
 refine c5 (X := Nat) (fun j => j ≤ p.pages.length ∧ px p j = true) (fun j => p.pages.length - j) (fun j => [(6, .v (.int .i64 (ip p.pages j))), (7, .v (.int .i64 (j : Int))), (8, .any)]) (fun j G' => G') 0 rfl ?_ ?_ (fun _ _ h => h) ?_ ?_ ?_
 ·exact ⟨Nat.zero_le _, rfl⟩
 ·exact zF
 ·rintro j hI
  exact zL
 ·exact fun _ _ _ _ h => .inl h
 rintro j hK
 dsimp only at hK ⊢
 refine yS fun _ K27 => ?_
 refine yS fun _ K28 => ?_
 refine yR ?_
 refine yM rfl rfl ?_
 refine yF rfl rfl rfl rfl ?_
 refine yL rfl rfl rfl ?_
 refine aa rfl (ba rfl rfl (List.length_map _)) ?_
 refine aa rfl (cj rfl rfl rfl) ?_
 refine yN ?_
 dsimp only [St.put]
 refine K28 _ ?_
 refine ar rfl (fun hc => ?_) (fun hc => ?_)
 ·replace hc := of_decide_eq_true hc
  obtain ⟨x, hx⟩ : ∃ x, p.pages[j]? = some x := da (by omega)
  refine ax ?_
  refine K27 _ ?_
  refine yS fun _ K29 => ?_
  refine az ?_
  refine yS fun _ K30 => ?_
  refine yR ?_
  refine yF rfl rfl rfl rfl ?_
  refine yL rfl rfl rfl ?_
  refine yM rfl rfl ?_
  refine aa rfl (bn rfl rfl rfl rfl (bp (by assumption)) (Enc.len _)) ?_
  refine yE rfl rfl rfl ?_
  try dsimp only [St.put]
  refine aj rfl (eb rfl ?_)
  try dsimp only [St.put]
  refine aj rfl (dj rfl rfl rfl zG rfl rfl (by rfl) ?_)
  refine yN ?_
  dsimp only [St.put]
  refine K30 _ ?_
  refine gt (i := 8) rfl zG zC ?_
  dsimp only
  refine yS fun _ K31 => ?_
  refine ck 9 ?_
  refine zQ ?_
  refine km (X := Bool) (fun d => mu p (ip p.pages j) x = !d) (fun d => [(120, .v (.bool d))]) (fun d G' => G') rfl ?_ (fun _ _ _ _ h => .inl h) ?_ ?_
  ·rintro d hI
   exact zL
  ·refine pn [(0, none), (1, none), (2, none), (3, none), (4, none), (5, none), (6, none), (7, none), (8, none), (9, none), (10, none), (11, none), (12, none), (13, none), (14, none), (15, none)] (fun _ => false) (fun i => [0, 2, 3, 4, 5, 7, 9, 10, 11, 12, 14].contains i) 23 (rl [16, 23]) (by kernel_rfl) (by kernel_rfl) ?_
   refine ae rfl rfl rfl rfl (bw rfl rfl rfl) ?_
   try dsimp only [St.put]
   refine ah rfl rfl rfl rfl (bf rfl rfl) ?_
   refine xM rfl rfl rfl rfl rfl ?_
   refine ae rfl rfl rfl rfl (qs rfl rfl rfl) ?_
   refine j8 (fun hs => ?_) (fun hs => ?_)
   ·have z1 : x.fr ≤ ip p.pages j := of_decide_eq_true hs
    refine xM rfl rfl rfl rfl rfl ?_
    refine am rfl rfl rfl ?_
    refine am rfl rfl rfl ?_
    refine am rfl rfl rfl ?_
    refine am rfl rfl rfl ?_
    refine am rfl rfl rfl ?_
    refine ae rfl rfl rfl rfl (cm rfl rfl (by constructor)) ?_
    refine xM rfl rfl rfl rfl rfl ?_
    refine am rfl rfl rfl ?_
    refine am rfl rfl rfl ?_
    refine am rfl rfl rfl ?_
    refine am rfl rfl rfl ?_
    refine cc ?_
    refine ca [16] (by kernel_rfl) (by simp) ?_
    refine br ?_ ?_
    ·refine gk rfl rfl rfl ?_
     refine dw [(17, none), (18, none), (19, none), (20, none), (21, none), (22, none), (23, none), (24, none), (25, none)] (fun i => [17, 18, 19, 20, 22, 24, 25].contains i) 13 (rl [26, 13]) (by kernel_rfl) ?_
     refine am rfl rfl rfl ?_
     refine ae rfl rfl rfl rfl (cm rfl rfl (by constructor)) ?_
     refine xM rfl rfl rfl rfl rfl ?_
     refine am rfl rfl rfl ?_
     refine am rfl rfl rfl ?_
     refine am rfl rfl rfl ?_
     refine am rfl rfl rfl ?_
     refine am rfl rfl rfl ?_
     refine am rfl rfl rfl ?_
     refine cc ?_
     refine ca [26] (by kernel_rfl) (by simp) ?_
     refine br ?_ ?_
     ·refine gk rfl rfl rfl ?_
      refine dw [(27, none), (28, none), (29, none), (30, none), (31, none), (32, none), (33, none), (34, none), (35, none)] (fun i => [27, 28, 29, 30, 32, 34, 35].contains i) 3 (rl [36, 3]) (by kernel_rfl) ?_
      refine am rfl rfl rfl ?_
      refine ae rfl rfl rfl rfl (cm rfl rfl (by constructor)) ?_
      refine xM rfl rfl rfl rfl rfl ?_
      refine am rfl rfl rfl ?_
      refine am rfl rfl rfl ?_
      refine am rfl rfl rfl ?_
      refine am rfl rfl rfl ?_
      refine am rfl rfl rfl ?_
      refine am rfl rfl rfl ?_
      refine cc ?_
      refine ca [36] (by kernel_rfl) (by simp) ?_
      refine br ?_ ?_
      ·refine gk rfl rfl rfl ?_
       refine dw [(37, none), (38, none)] (fun i => [37, 38].contains i) 0 (rl [39]) (by kernel_rfl) ?_
       refine am rfl rfl rfl ?_
       refine ae rfl rfl rfl rfl (cm rfl rfl (by constructor)) ?_
       refine cc ?_
       dsimp only [St.put]
       refine e8 (by kernel_rfl) ?_
       refine ⟨_, ?_, ⟨⟨rfl, rfl⟩, zF, zB, zN, zX⟩⟩
       simp_all [mu]
       try (intro h0; omega)
      exact cb
     exact cb
    exact cb
   have z1 : ¬ x.fr ≤ ip p.pages j := of_decide_eq_false hs
   refine xM rfl rfl rfl rfl rfl ?_
   refine ae rfl rfl rfl rfl (bw rfl rfl rfl) ?_
   try dsimp only [St.put]
   refine ah rfl rfl rfl rfl (bf rfl rfl) ?_
   refine ae rfl rfl rfl rfl (bw rfl rfl rfl) ?_
   try dsimp only [St.put]
   refine ah rfl rfl rfl rfl (bf rfl rfl) ?_
   refine ae rfl rfl rfl rfl (cj rfl rfl rfl) ?_
   refine j8 (fun hs => ?_) (fun hs => ?_)
   ·have z2 : x.to < x.fr := of_decide_eq_true hs
    refine ae rfl rfl rfl rfl (ce rfl rfl (by constructor)) ?_
    refine xM rfl rfl rfl rfl rfl ?_
    refine am rfl rfl rfl ?_
    refine am rfl rfl rfl ?_
    refine am rfl rfl rfl ?_
    refine am rfl rfl rfl ?_
    refine cc ?_
    refine ca [16] (by kernel_rfl) (by simp) ?_
    refine br ?_ ?_
    ·refine gk rfl rfl rfl ?_
     refine dw [(17, none), (18, none), (19, none), (20, none), (21, none), (22, none), (23, none), (24, none), (25, none)] (fun i => [17, 18, 19, 20, 22, 24, 25].contains i) 13 (rl [26, 13]) (by kernel_rfl) ?_
     refine am rfl rfl rfl ?_
     refine ae rfl rfl rfl rfl (cm rfl rfl (by constructor)) ?_
     refine xM rfl rfl rfl rfl rfl ?_
     refine am rfl rfl rfl ?_
     refine am rfl rfl rfl ?_
     refine am rfl rfl rfl ?_
     refine am rfl rfl rfl ?_
     refine am rfl rfl rfl ?_
     refine am rfl rfl rfl ?_
     refine cc ?_
     refine ca [26] (by kernel_rfl) (by simp) ?_
     refine br ?_ ?_
     ·refine gk rfl rfl rfl ?_
      refine dw [(27, none), (28, none), (29, none), (30, none), (31, none), (32, none), (33, none), (34, none), (35, none)] (fun i => [27, 28, 29, 30, 32, 34, 35].contains i) 3 (rl [36, 3]) (by kernel_rfl) ?_
      refine am rfl rfl rfl ?_
      refine ae rfl rfl rfl rfl (cm rfl rfl (by constructor)) ?_
      refine xM rfl rfl rfl rfl rfl ?_
      refine am rfl rfl rfl ?_
      refine am rfl rfl rfl ?_
      refine am rfl rfl rfl ?_
      refine am rfl rfl rfl ?_
      refine am rfl rfl rfl ?_
      refine am rfl rfl rfl ?_
      refine cc ?_
      refine ca [36] (by kernel_rfl) (by simp) ?_
      refine br ?_ ?_
      ·refine gk rfl rfl rfl ?_
       refine dw [(37, none), (38, none)] (fun i => [37, 38].contains i) 0 (rl [39]) (by kernel_rfl) ?_
       refine am rfl rfl rfl ?_
       refine ae rfl rfl rfl rfl (cm rfl rfl (by constructor)) ?_
       refine cc ?_
       dsimp only [St.put]
       refine e8 (by kernel_rfl) ?_
       refine ⟨_, ?_, ⟨⟨rfl, rfl⟩, zF, zB, zN, zX⟩⟩
       simp_all [mu]
       try (intro h0; omega)
      exact cb
     exact cb
    exact cb
   have z2 : ¬ x.to < x.fr := of_decide_eq_false hs
   refine ae rfl rfl rfl rfl (ce rfl rfl (by constructor)) ?_
   refine xM rfl rfl rfl rfl rfl ?_
   refine ae rfl rfl rfl rfl (bw rfl rfl rfl) ?_
   try dsimp only [St.put]
   refine ah rfl rfl rfl rfl (bf rfl rfl) ?_
   refine ae rfl rfl rfl rfl (bw rfl rfl rfl) ?_
   try dsimp only [St.put]
   refine ah rfl rfl rfl rfl (c := fj p.text) (jc (cs := cells p) rfl rfl (show 1 ≤ 4 by decide)) ?_
   refine cc ?_
   refine ca [16] (by kernel_rfl) (by simp) ?_
   refine br ?_ ?_
   ·try dsimp only [St.put]
    refine cn rfl rfl rfl (bq rfl rfl rfl (uhx p.text ht) ?_)
    refine dw [(17, none), (18, none), (19, none), (20, none), (21, none), (22, none), (23, none), (24, none), (25, none)] (fun i => [17, 18, 19, 20, 22, 24, 25].contains i) 13 (rl [26, 13]) (by kernel_rfl) ?_
    refine ae rfl rfl rfl rfl (lu rfl rfl rfl) ?_
    refine j8 (fun hs => ?_) (fun hs => ?_)
    ·have z3 : (mr p.text : Int) ≤ x.to := of_decide_eq_true hs
     refine ae rfl rfl rfl rfl (ce rfl rfl (by constructor)) ?_
     refine xM rfl rfl rfl rfl rfl ?_
     refine am rfl rfl rfl ?_
     refine am rfl rfl rfl ?_
     refine am rfl rfl rfl ?_
     refine am rfl rfl rfl ?_
     refine am rfl rfl rfl ?_
     refine am rfl rfl rfl ?_
     refine cc ?_
     refine ca [26] (by kernel_rfl) (by simp) ?_
     refine br ?_ ?_
     ·refine gk rfl rfl rfl ?_
      refine dw [(27, none), (28, none), (29, none), (30, none), (31, none), (32, none), (33, none), (34, none), (35, none)] (fun i => [27, 28, 29, 30, 32, 34, 35].contains i) 3 (rl [36, 3]) (by kernel_rfl) ?_
      refine am rfl rfl rfl ?_
      refine ae rfl rfl rfl rfl (cm rfl rfl (by constructor)) ?_
      refine xM rfl rfl rfl rfl rfl ?_
      refine am rfl rfl rfl ?_
      refine am rfl rfl rfl ?_
      refine am rfl rfl rfl ?_
      refine am rfl rfl rfl ?_
      refine am rfl rfl rfl ?_
      refine am rfl rfl rfl ?_
      refine cc ?_
      refine ca [36] (by kernel_rfl) (by simp) ?_
      refine br ?_ ?_
      ·refine gk rfl rfl rfl ?_
       refine dw [(37, none), (38, none)] (fun i => [37, 38].contains i) 0 (rl [39]) (by kernel_rfl) ?_
       refine am rfl rfl rfl ?_
       refine ae rfl rfl rfl rfl (cm rfl rfl (by constructor)) ?_
       refine cc ?_
       dsimp only [St.put]
       refine e8 (by kernel_rfl) ?_
       refine ⟨_, ?_, ⟨⟨rfl, rfl⟩, zF, zB, zN, zX⟩⟩
       simp_all [mu]
       try (intro h0; omega)
      exact cb
     exact cb
    have z3 : ¬ (mr p.text : Int) ≤ x.to := of_decide_eq_false hs
    refine ae rfl rfl rfl rfl (ce rfl rfl (by constructor)) ?_
    refine xM rfl rfl rfl rfl rfl ?_
    refine ae rfl rfl rfl rfl (bw rfl rfl rfl) ?_
    try dsimp only [St.put]
    refine ah rfl rfl rfl rfl (bf rfl rfl) ?_
    refine ae rfl rfl rfl rfl (bw rfl rfl rfl) ?_
    try dsimp only [St.put]
    refine ah rfl rfl rfl rfl (bf rfl rfl) ?_
    refine ae rfl rfl rfl rfl (ba rfl rfl (List.length_map _)) ?_
    refine ae rfl rfl rfl rfl (io rfl rfl rfl (by omega)) ?_
    refine cc ?_
    refine ca [26] (by kernel_rfl) (by simp) ?_
    refine br ?_ ?_
    ·try dsimp only [St.put]
     refine cn rfl rfl rfl (bq rfl rfl rfl (pt _ _ _) ?_)
     refine dw [(27, none), (28, none), (29, none), (30, none), (31, none), (32, none), (33, none), (34, none), (35, none)] (fun i => [27, 28, 29, 30, 32, 34, 35].contains i) 3 (rl [36, 3]) (by kernel_rfl) ?_
     refine ae rfl rfl rfl rfl (ef rfl rfl) ?_
     refine j8 (fun hs => ?_) (fun hs => ?_)
     ·have z4 : inB x.fst (-1) ((p.firsts.length : Int) - 1) = false := by simpa using hs
      refine ae rfl rfl rfl rfl (ce rfl rfl (by constructor)) ?_
      refine xM rfl rfl rfl rfl rfl ?_
      refine am rfl rfl rfl ?_
      refine am rfl rfl rfl ?_
      refine am rfl rfl rfl ?_
      refine am rfl rfl rfl ?_
      refine am rfl rfl rfl ?_
      refine am rfl rfl rfl ?_
      refine cc ?_
      refine ca [36] (by kernel_rfl) (by simp) ?_
      refine br ?_ ?_
      ·refine gk rfl rfl rfl ?_
       refine dw [(37, none), (38, none)] (fun i => [37, 38].contains i) 0 (rl [39]) (by kernel_rfl) ?_
       refine am rfl rfl rfl ?_
       refine ae rfl rfl rfl rfl (cm rfl rfl (by constructor)) ?_
       refine cc ?_
       dsimp only [St.put]
       refine e8 (by kernel_rfl) ?_
       refine ⟨_, ?_, ⟨⟨rfl, rfl⟩, zF, zB, zN, zX⟩⟩
       simp_all [mu]
       try (intro h0; omega)
      exact cb
     have z4 : inB x.fst (-1) ((p.firsts.length : Int) - 1) = true := by simpa using hs
     refine ae rfl rfl rfl rfl (ce rfl rfl (by constructor)) ?_
     refine xM rfl rfl rfl rfl rfl ?_
     refine ae rfl rfl rfl rfl (bw rfl rfl rfl) ?_
     try dsimp only [St.put]
     refine ah rfl rfl rfl rfl (bf rfl rfl) ?_
     refine ae rfl rfl rfl rfl (bw rfl rfl rfl) ?_
     try dsimp only [St.put]
     refine ah rfl rfl rfl rfl (bf rfl rfl) ?_
     refine ae rfl rfl rfl rfl (ba rfl rfl (List.length_map _)) ?_
     refine ae rfl rfl rfl rfl (io rfl rfl rfl (by omega)) ?_
     refine cc ?_
     refine ca [36] (by kernel_rfl) (by simp) ?_
     refine br ?_ ?_
     ·try dsimp only [St.put]
      refine cn rfl rfl rfl (bq rfl rfl rfl (pt _ _ _) ?_)
      refine dw [(37, none), (38, none)] (fun i => [37, 38].contains i) 0 (rl [39]) (by kernel_rfl) ?_
      refine ae rfl rfl rfl rfl (ef rfl rfl) ?_
      refine j8 (fun hs => ?_) (fun hs => ?_)
      ·have z5 : inB x.snd (-1) ((p.seconds.length : Int) - 1) = false := by simpa using hs
       refine ae rfl rfl rfl rfl (ce rfl rfl (by constructor)) ?_
       refine cc ?_
       dsimp only [St.put]
       refine e8 (by kernel_rfl) ?_
       refine ⟨_, ?_, ⟨⟨rfl, rfl⟩, zF, zB, zN, zX⟩⟩
       simp_all [mu]
       try (intro h0; omega)
      have z5 : inB x.snd (-1) ((p.seconds.length : Int) - 1) = true := by simpa using hs
      refine ae rfl rfl rfl rfl (ce rfl rfl (by constructor)) ?_
      refine cc ?_
      dsimp only [St.put]
      refine e8 (by kernel_rfl) ?_
      refine ⟨_, ?_, ⟨⟨rfl, rfl⟩, zF, zB, zN, zX⟩⟩
      simp_all [mu]
      try (intro h0; omega)
     exact cb
    exact cb
   exact cb
  rintro d hst
  dsimp only at hst ⊢
  refine ar rfl (fun hc => ?_) (fun hc => ?_)
  ·have hhd : mu p (ip p.pages j) x = false := by rw [hst, hc]; rfl
   refine yS fun _ K33 => ?_
   refine yR ?_
   refine yA rfl rfl ?_
   refine yN ?_
   dsimp only [St.put]
   refine K33 _ ?_
   refine aw ?_
   refine bg rfl (by constructor) zN zS ?_
   exact vb (ur hx (by rw [ut, hhd]; rfl)).symm
  have hhd : mu p (ip p.pages j) x = true := by rw [hst, hc]; rfl
  refine ax ?_
  refine K31 _ ?_
  refine yS fun _ K34 => ?_
  refine yS fun _ K35 => ?_
  refine yR ?_
  refine yF rfl rfl rfl rfl ?_
  try dsimp only [St.put]
  refine af rfl (c := fj p.text) (jc (cs := cells p) rfl rfl (show 1 ≤ 4 by decide)) ?_
  refine yE rfl rfl rfl ?_
  refine yF rfl rfl rfl rfl ?_
  refine yL rfl rfl rfl ?_
  refine yF rfl rfl rfl rfl ?_
  refine yL rfl rfl rfl ?_
  try dsimp only [St.put]
  refine aj rfl (bq rfl rfl rfl (ubh p.text x x.fst x.found ht) ?_)
  refine aa rfl (ef rfl rfl) ?_
  refine eo (fun hs => ?_) (fun hs => ?_)
  ·have hf1 : ig p.text x x.fst x.found = false := by simpa using hs
   refine yM rfl rfl ?_
   refine yK rfl ?_
   refine yK rfl ?_
   refine yK rfl ?_
   refine yK rfl ?_
   refine yK rfl ?_
   refine yK rfl ?_
   refine yK rfl ?_
   refine yK rfl ?_
   refine yK rfl ?_
   refine aa rfl (cm rfl rfl (by constructor)) ?_
   refine yN ?_
   dsimp only [St.put]
   refine K35 _ ?_
   refine ar rfl (fun _ => ?_) (fun h => by cases h)
   refine yS fun _ K36 => ?_
   refine yR ?_
   refine yA rfl rfl ?_
   refine yN ?_
   dsimp only [St.put]
   refine K36 _ ?_
   refine aw ?_
   refine bg rfl (by constructor) zN zS ?_
   exact vb (ur hx (by rw [ut, hhd, hf1]; first | rfl | (rw [hf2]; rfl))).symm
  have hf1 : ig p.text x x.fst x.found = true := by simpa using hs
  refine yM rfl rfl ?_
  refine yF rfl rfl rfl rfl ?_
  try dsimp only [St.put]
  refine af rfl (c := fj p.text) (jc (cs := cells p) rfl rfl (show 1 ≤ 4 by decide)) ?_
  refine yE rfl rfl rfl ?_
  refine yF rfl rfl rfl rfl ?_
  refine yL rfl rfl rfl ?_
  refine yF rfl rfl rfl rfl ?_
  refine yL rfl rfl rfl ?_
  try dsimp only [St.put]
  refine aj rfl (bq rfl rfl rfl (ubh p.text x x.snd x.well ht) ?_)
  refine aa rfl (ef rfl rfl) ?_
  refine eo (fun hs => ?_) (fun hs => ?_)
  ·have hf2 : ig p.text x x.snd x.well = false := by simpa using hs
   refine aa rfl (ce rfl rfl (by constructor)) ?_
   refine yN ?_
   dsimp only [St.put]
   refine K35 _ ?_
   refine ar rfl (fun _ => ?_) (fun h => by cases h)
   refine yS fun _ K37 => ?_
   refine yR ?_
   refine yA rfl rfl ?_
   refine yN ?_
   dsimp only [St.put]
   refine K37 _ ?_
   refine aw ?_
   refine bg rfl (by constructor) zN zS ?_
   exact vb (ur hx (by rw [ut, hhd, hf1]; first | rfl | (rw [hf2]; rfl))).symm
  have hf2 : ig p.text x x.snd x.well = true := by simpa using hs
  refine aa rfl (ce rfl rfl (by constructor)) ?_
  refine yN ?_
  dsimp only [St.put]
  refine K35 _ ?_
  refine ar rfl (fun h => by cases h) (fun _ => ?_)
  refine ax ?_
  refine K34 _ ?_
  refine yR ?_
  refine yF rfl rfl rfl rfl ?_
  refine yL rfl rfl rfl ?_
  refine yA rfl rfl ?_
  refine yN ?_
  dsimp only [St.put]
  refine K29 _ ?_
  refine yR ?_
  refine yM rfl rfl ?_
  refine aa rfl (bu rfl rfl rfl (by omega)) ?_
  refine yA rfl rfl ?_
  refine yN ?_
  dsimp only [St.put]
  rw [← ucy hx]
  exact ⟨j + 1, by omega, ⟨by omega, by rw [ubq, hK.2, xw hx, ut, hhd, hf1, hf2]; rfl⟩, ⟨⟨rfl, rfl⟩, zF, zB, zN, zX⟩⟩
 replace hc := of_decide_eq_false hc
 obtain rfl : j = p.pages.length := by omega
 refine cw ?_
 refine K25 _ ?_
 refine yS fun _ K38 => ?_
 refine yR ?_
 refine yA rfl rfl ?_
 refine yN ?_
 dsimp only [St.put]
 refine K38 _ ?_
 refine aw ?_
 refine bg rfl (by constructor) zN zS ?_
 exact vb (by unfold gj; rw [hRB, hK.2, decide_eq_true s3]; rfl)
end Go.Proofs.YtgffhbbcpgdjjaaDoor
namespace Go.AB
open Go Go.RowKit
open Go.AB.Enc (cells)
open Go.PB (ay ak PlaceD bi bk bj bz av aq cy cx dp dm)
end Go.AB
namespace Go.Proofs.YtgffhbbcpgdjjaaDoor
set_option maxRecDepth 10000
open Go.RowKit Go.AB
open Go.AB.Enc (cells)
open Go.PB (ay ak PlaceD bi bk bj bz av aq cy cx dp dm)
theorem uh7 (p : aq) : Pure Tryd.prog 13 [val p] (.v (.int .i64 (ey p))) := by
 refine cz Tryd.func13 rfl (fun m => .v) fun G nx => ?_
 simp only [Tryd.ntmps13, List.length_cons, List.length_nil, Nat.reduceAdd, Nat.reduceSub]
 refine ci fun hlt => ?_
 dsimp only at hlt
 refine yS fun _ K1 => ?_
 refine yR ?_
 try dsimp only [St.put]
 refine yB rfl rfl rfl ?_
 refine yA rfl rfl ?_
 refine yN ?_
 dsimp only [St.put]
 refine K1 _ ?_
 refine yS fun _ K2 => ?_
 refine yS fun _ K3 => ?_
 refine yR ?_
 refine yF rfl rfl rfl rfl ?_
 try dsimp only [St.put]
 refine af rfl (c := fj p.text) (jc (cs := cells p) rfl rfl (show 1 ≤ 4 by decide)) ?_
 try dsimp only [St.put]
 refine aj rfl (bq rfl rfl rfl (um5 p.text) ?_)
 refine yA rfl rfl ?_
 refine yN ?_
 dsimp only [St.put]
 refine K3 _ ?_
 refine yS fun _ K4 => ?_
 refine yR ?_
 refine yM rfl rfl ?_
 refine aa rfl (i0 rfl rfl rfl) ?_
 refine yN ?_
 dsimp only [St.put]
 refine K4 _ ?_
 refine ar rfl (fun hc => ?_) (fun hc => ?_)
 ·have ht : dv p.text = false := by
   have h0 := ka hc
   unfold jf at h0
   cases h1 : dv p.text
   ·rfl
   rw [h1] at h0; exact absurd rfl h0
  refine yS fun _ K5 => ?_
  refine yR ?_
  refine yM rfl rfl ?_
  refine yA rfl rfl ?_
  refine yN ?_
  dsimp only [St.put]
  refine K5 _ ?_
  refine aw ?_
  refine bg rfl (by constructor) zN zS ?_
  exact vi (by simp [ey, jf, ht])
 have ht : dv p.text = true := by
  have h0 := jd hc
  unfold jf at h0
  cases h1 : dv p.text
  ·rw [h1] at h0; cases h0
  rfl
 refine ax ?_
 refine K2 _ ?_
 refine yS fun _ K6 => ?_
 refine yS fun _ K7 => ?_
 refine yR ?_
 refine yE rfl rfl rfl ?_
 try dsimp only [St.put]
 refine aj rfl (bq rfl rfl rfl (uh4 p ht) ?_)
 refine aa rfl (ef rfl rfl) ?_
 refine yN ?_
 dsimp only [St.put]
 refine K7 _ ?_
 refine ar rfl (fun hc => ?_) (fun hc => ?_)
 ·have hp : gj p = false := by simpa using hc
  refine yS fun _ K8 => ?_
  refine yR ?_
  refine yA rfl rfl ?_
  refine yN ?_
  dsimp only [St.put]
  refine K8 _ ?_
  refine aw ?_
  refine bg rfl (by constructor) zN zS ?_
  exact vi (by simp [ey, ht, hp])
 have hp : gj p = true := by simpa using hc
 refine ax ?_
 refine K6 _ ?_
 refine yS fun _ K9 => ?_
 refine yR ?_
 refine yA rfl rfl ?_
 refine yN ?_
 dsimp only [St.put]
 refine K9 _ ?_
 refine aw ?_
 refine bg rfl (by constructor) zN zS ?_
 exact vi (by simp [ey, ht, hp])
end Go.Proofs.YtgffhbbcpgdjjaaDoor
namespace Go.Proofs.YtgffhbbcpgdjjaaDoor
set_option maxRecDepth 10000
open Go.RowKit Go.AB
open Go.AB.Enc (cells)
open Go.PB (ay ak PlaceD bi bk bj bz av aq cy cx dp dm)
end Go.Proofs.YtgffhbbcpgdjjaaDoor
namespace Go.Proofs.YtgffhbbcpgdjjaaDoor
set_option maxRecDepth 10000
open Go.RowKit Go.AB
open Go.AB.Enc (cells)
open Go.PB (ay ak PlaceD bi bk bj bz av aq cy cx dp dm)
end Go.Proofs.YtgffhbbcpgdjjaaDoor
