/-
  What the walks through the program rest on: values, states, steps, calls (EgComp, FaNear, FbWords, AbFull, Lay, EhOrd, FcNear, FdNear, KzWords, GsNumber, KwWords, LaRef, PaFlow, PbData, PcWorst, PdPlain, PeSets, PfPlain, PgSides, PhApart, PiWhy, PjWhy, PsExamples, PpAdd, PlTruth, PqRest, AbTwin, AbCut, RaStd, OpenE, AbRem, AbBits, QaRef, QbRef, QcRef, RbSides, QdRef, QeRef, KxBefore, QfRef).
-/
import Derived.Test.YtbbdginipiljdaaGreatDoorPartB
import Derived.Test.YtbbdginipiljdaaGreatDoorPartA
import Derived.Laws.Cover3
import Derived.Shelf.SlSortCmp.NoneTotal
import Derived.Test.YtbbdginipiljdaaGreatDoorProg
import Derived.ChangeKeysEq
import Derived.Lib.Hide
import Derived.Shelf.SlicesE.DeleteFunc
import Derived.Deep.Slices
import Derived.Lib.SmallJoins
import Derived.Carry
import Derived.ProofKit
import Derived.OpenShut
namespace Go.AB
open Go Go.RowKit
open Go.AB.Enc (cells)
def ip (a b : Int) : Int := bif decide (a < b) then -1 else bif decide (b < a) then 1 else 0
def fb : List Int → List Int → Int
 | [], [] => 0
 | [], _ :: _ => -1
 | _ :: _, [] => 1
 | x :: a, y :: b => bif decide (ip x y = 0) then fb a b else ip x y
theorem umw {a b : Int} : ip a b < 0 ↔ a < b := by
 unfold ip
 by_cases h : a < b
 ·simp [h]
 by_cases h2 : b < a <;> simp [h, h2]
theorem cmpI_zero {a b : Int} : ip a b = 0 ↔ a = b := by
 unfold ip
 by_cases h : a < b
 ·simp [h]; omega
 by_cases h2 : b < a <;> simp [h, h2] <;> omega
/-- words of the same length, one behind the other -/
def ltW : List Int → List Int → Prop
 | x :: a, y :: b => x < y ∨ x = y ∧ ltW a b
 | _, _ => False
theorem n4 : ∀ {a b : List Int}, a.length = b.length → (fb a b < 0 ↔ ltW a b)
 | [], [], _ => by simp [fb, ltW]
 | x :: a, y :: b, h => by
  simp only [fb, ltW]
  by_cases h0 : ip x y = 0
  ·have := cmpI_zero.1 h0
   subst this
   rw [decide_eq_true h0, cond_true, n4 (by simpa using h)]
   simp
  have := mt cmpI_zero.2 h0
  rw [decide_eq_false h0, cond_false, umw]
  constructor
  ·exact .inl
  rintro (h1 | ⟨h1, _⟩)
  ·exact h1
  exact absurd h1 this
end Go.AB
namespace Go.Proofs.YtbbdginipiljdaaGreatDoor
set_option maxRecDepth 10000
open Go.RowKit Go.AB
open Go.AB.Enc (cells)
theorem ud7 (x : Int) : Pure Tryz.prog 115 [.v (.int .i64 x)] (.v (.bool false)) := by
 refine cw Tryz.func115 rfl (fun m => .v) fun G nx => ?_
 simp only [Tryz.ntmps115, List.length_cons, List.length_nil, Nat.reduceAdd, Nat.reduceSub]
 refine bx fun hlt => ?_
 dsimp only at hlt
 refine yS fun _ K1 => ?_
 refine yR ?_
 refine yA rfl rfl ?_
 refine yN ?_
 dsimp only [St.put]
 refine K1 _ ?_
 refine yS fun _ K2 => ?_
 refine yR ?_
 refine yM rfl rfl ?_
 refine yM rfl rfl ?_
 refine aa rfl (fl rfl rfl rfl) ?_
 refine yA rfl rfl ?_
 refine yN ?_
 dsimp only [St.put]
 refine K2 _ ?_
 refine aq ?_
 refine bh rfl (by constructor) zN zS ?_
 exact vb (by simp)
theorem xj (x y : Int) : Pure Tryz.prog 103 [.v (.int .i64 x), .v (.int .i64 y)] (.v (.int .i64 (ip x y))) := by
 refine cw Tryz.func103 rfl (fun m => .v) fun G nx => ?_
 simp only [Tryz.ntmps103, List.length_cons, List.length_nil, Nat.reduceAdd, Nat.reduceSub]
 refine bx fun hlt => ?_
 dsimp only at hlt
 refine yS fun _ K1 => ?_
 refine yR ?_
 refine yA rfl rfl ?_
 refine yN ?_
 dsimp only [St.put]
 refine K1 _ ?_
 refine yS fun _ K2 => ?_
 refine yR ?_
 refine yM rfl rfl ?_
 try dsimp only [St.put]
 refine ae rfl (ba rfl rfl rfl (ud7 _) ?_)
 refine yA rfl rfl ?_
 refine yN ?_
 dsimp only [St.put]
 refine K2 _ ?_
 refine yS fun _ K3 => ?_
 refine yR ?_
 refine yM rfl rfl ?_
 try dsimp only [St.put]
 refine ae rfl (ba rfl rfl rfl (ud7 _) ?_)
 refine yA rfl rfl ?_
 refine yN ?_
 dsimp only [St.put]
 refine K3 _ ?_
 refine yS fun _ K4 => ?_
 refine yS fun _ K5 => ?_
 refine yR ?_
 refine aa rfl (pi (c := false) (gy rfl (by constructor)) (by rfl)) ?_
 refine yN ?_
 dsimp only [St.put]
 refine K5 _ ?_
 refine am rfl (fun h => by cases h) (fun _ => ?_)
 refine aw ?_
 refine K4 _ ?_
 refine yS fun _ K6 => ?_
 refine yS fun _ K7 => ?_
 refine yR ?_
 refine aa rfl (pi (c := false) (gy rfl (by constructor)) (by rfl)) ?_
 refine yN ?_
 dsimp only [St.put]
 refine K7 _ ?_
 refine am rfl (fun h => by cases h) (fun _ => ?_)
 refine aw ?_
 refine K6 _ ?_
 refine yS fun _ K8 => ?_
 refine yS fun _ K9 => ?_
 refine yR ?_
 refine yM rfl rfl ?_
 refine yM rfl rfl ?_
 refine aa rfl (cg rfl rfl rfl) ?_
 refine yN ?_
 dsimp only [St.put]
 refine K9 _ ?_
 refine am rfl (fun hc => ?_) (fun hc => ?_)
 ·have h1 := of_decide_eq_true hc
  refine yS fun _ K10 => ?_
  refine yR ?_
  refine yA rfl rfl ?_
  refine yN ?_
  dsimp only [St.put]
  refine K10 _ ?_
  refine aq ?_
  refine bh rfl (by constructor) zN zS ?_
  exact vi (by simp [ip, h1])
 have h1 := of_decide_eq_false hc
 refine aw ?_
 refine K8 _ ?_
 refine yS fun _ K11 => ?_
 refine yS fun _ K12 => ?_
 refine yR ?_
 refine yM rfl rfl ?_
 refine yM rfl rfl ?_
 refine aa rfl (iq rfl rfl rfl) ?_
 refine yN ?_
 dsimp only [St.put]
 refine K12 _ ?_
 refine am rfl (fun hc => ?_) (fun hc => ?_)
 ·have h2 := of_decide_eq_true hc
  refine yS fun _ K13 => ?_
  refine yR ?_
  refine yA rfl rfl ?_
  refine yN ?_
  dsimp only [St.put]
  refine K13 _ ?_
  refine aq ?_
  refine bh rfl (by constructor) zN zS ?_
  exact vi (by have h2' : y < x := h2; simp [ip, h1, h2'])
 have h2 := of_decide_eq_false hc
 refine aw ?_
 refine K11 _ ?_
 refine yS fun _ K14 => ?_
 refine yR ?_
 refine yA rfl rfl ?_
 refine yN ?_
 dsimp only [St.put]
 refine K14 _ ?_
 refine aq ?_
 refine bh rfl (by constructor) zN zS ?_
 exact vi (by have h2' : ¬ y < x := h2; simp [ip, h1, h2'])
theorem ufb {a b : List Int} {k : Nat} {x y : Int} (hx : a[k]? = some x) (hy : b[k]? = some y) : fb (a.drop k) (b.drop k) = bif decide (ip x y = 0) then fb (a.drop (k + 1)) (b.drop (k + 1)) else ip x y := by
 obtain ⟨h1, h2⟩ := List.getElem?_eq_some_iff.1 hx
 obtain ⟨h3, h4⟩ := List.getElem?_eq_some_iff.1 hy
 rw [List.drop_eq_getElem_cons h1, List.drop_eq_getElem_cons h3, h2, h4]; rfl
theorem umv (a b : List Int) (ha : a.length ≤ 1000) (hb : b.length ≤ 1000) : Pure Tryz.prog 93 [lst a, lst b] (.v (.int .i64 (fb a b))) := by
 refine cw Tryz.func93 rfl (fun m => .v) fun G nx => ?_
 simp only [Tryz.ntmps93, List.length_cons, List.length_nil, Nat.reduceAdd, Nat.reduceSub]
 refine bx fun hlt => ?_
 dsimp only at hlt
 refine yS fun _ K1 => ?_
 refine yR ?_
 refine yA rfl rfl ?_
 refine yN ?_
 dsimp only [St.put]
 refine K1 _ ?_
 refine yS fun _ K2 => ?_
 refine yS fun _ K3 => ?_
 refine yR ?_
 refine yM rfl rfl ?_
 refine aa rfl (bg rfl rfl (List.length_map _)) ?_
 refine yM rfl rfl ?_
 refine yN ?_
 dsimp only [St.put]
 refine K3 _ ?_
 refine ay ?_
 refine ci 12 ?_
 refine zQ ?_
 refine c4 (G) zX ?_
 dsimp only
 refine cz (X := Nat) (fun k => k ≤ a.length ∧ k ≤ b.length ∧ fb a b = fb (a.drop k) (b.drop k)) (fun k => a.length - k) (fun k => [(5, .any), (6, .any), (7, .any), (8, .any), (11, .v (.int .i64 (k : Int)))]) (fun k G' => G') 0 rfl ?_ ?_ (fun _ _ h => h) ?_ ?_ ?_
 ·exact ⟨Nat.zero_le _, Nat.zero_le _, rfl⟩
 ·exact zF
 ·rintro k hI
  exact zL
 ·exact fun _ _ _ _ h => .inl h
 rintro k hI
 dsimp only at hI ⊢
 refine yS fun _ K4 => ?_
 refine yR ?_
 refine aa rfl (cg rfl rfl rfl) ?_
 refine yN ?_
 dsimp only [St.put]
 refine K4 _ ?_
 refine yS fun _ K5 => ?_
 refine am rfl (fun hc => ?_) (fun hc => ?_)
 ·replace hc := of_decide_eq_true hc
  obtain ⟨x, hx⟩ : ∃ x, a[k]? = some x := da (by omega)
  refine aw ?_
  refine K5 _ ?_
  refine yS fun _ K6 => ?_
  refine ay ?_
  refine yS fun _ K7 => ?_
  refine yR ?_
  refine yM rfl rfl ?_
  refine aa rfl (bn rfl rfl rfl rfl (bi (by assumption)) (Enc.len _)) ?_
  refine yL rfl rfl rfl ?_
  refine yA rfl rfl ?_
  refine yA rfl rfl ?_
  refine yN ?_
  dsimp only [St.put]
  refine K7 _ ?_
  refine yS fun _ K8 => ?_
  refine yS fun _ K9 => ?_
  refine yR ?_
  refine yM rfl rfl ?_
  refine yM rfl rfl ?_
  refine aa rfl (bg rfl rfl (List.length_map _)) ?_
  refine aa rfl (l5 rfl rfl rfl) ?_
  refine yN ?_
  dsimp only [St.put]
  refine K9 _ ?_
  refine am rfl (fun hc => ?_) (fun hc => ?_)
  ·replace hc := of_decide_eq_true hc
   refine yS fun _ K10 => ?_
   refine yR ?_
   refine yA rfl rfl ?_
   refine yN ?_
   dsimp only [St.put]
   refine K10 _ ?_
   refine aq ?_
   refine bh rfl (by constructor) zN zS ?_
   exact vi (by
    rw [hI.2.2, List.drop_of_length_le (show b.length ≤ k by omega)]
    obtain ⟨h1, h2⟩ := List.getElem?_eq_some_iff.1 hx
    rw [List.drop_eq_getElem_cons h1]; rfl)
  replace hc := of_decide_eq_false hc
  obtain ⟨y, hy⟩ : ∃ x, b[k]? = some x := da (by omega)
  refine aw ?_
  refine K8 _ ?_
  refine yS fun _ K11 => ?_
  refine yR ?_
  refine yM rfl rfl ?_
  refine yM rfl rfl ?_
  refine aa rfl (bn rfl rfl rfl rfl (bi (by assumption)) (Enc.len _)) ?_
  refine yL rfl rfl rfl ?_
  refine yA rfl rfl ?_
  refine yN ?_
  dsimp only [St.put]
  refine K11 _ ?_
  refine yS fun _ K12 => ?_
  refine yR ?_
  refine yM rfl rfl ?_
  refine yM rfl rfl ?_
  try dsimp only [St.put]
  refine ae rfl (ba rfl rfl rfl (xj x y) ?_)
  refine yA rfl rfl ?_
  refine yN ?_
  dsimp only [St.put]
  refine K12 _ ?_
  refine yS fun _ K13 => ?_
  refine yR ?_
  refine yM rfl rfl ?_
  refine aa rfl (fl rfl rfl rfl) ?_
  refine yN ?_
  dsimp only [St.put]
  refine K13 _ ?_
  refine am rfl (fun hc => ?_) (fun hc => ?_)
  ·have h1 : ip x y ≠ 0 := je hc
   have hst := ufb hx hy
   rw [decide_eq_false h1] at hst
   refine yS fun _ K14 => ?_
   refine yR ?_
   refine yM rfl rfl ?_
   refine yA rfl rfl ?_
   refine yN ?_
   dsimp only [St.put]
   refine K14 _ ?_
   refine aq ?_
   refine bh rfl (by constructor) zN zS ?_
   exact vi (hI.2.2.trans hst).symm
  have h1 : ip x y = 0 := gq hc
  have hst := ufb hx hy
  rw [decide_eq_true h1] at hst
  refine aw ?_
  refine K6 _ ?_
  refine yR ?_
  refine aa rfl (bp rfl rfl rfl (by omega)) ?_
  refine yM rfl rfl ?_
  refine yN ?_
  dsimp only [St.put]
  exact ⟨k + 1, by omega, ⟨by omega, by omega, hI.2.2.trans hst⟩, ⟨⟨rfl, rfl⟩, zF, zB, zN, zX⟩⟩
 replace hc := of_decide_eq_false hc
 have hdr := hI.2.2
 rw [List.drop_of_length_le (show a.length ≤ k by omega)] at hdr
 refine cr ?_
 refine K2 _ ?_
 refine yS fun _ K15 => ?_
 refine yS fun _ K16 => ?_
 refine yR ?_
 refine yM rfl rfl ?_
 refine aa rfl (bg rfl rfl (List.length_map _)) ?_
 refine yM rfl rfl ?_
 refine aa rfl (bg rfl rfl (List.length_map _)) ?_
 refine aa rfl (cg rfl rfl rfl) ?_
 refine yN ?_
 dsimp only [St.put]
 refine K16 _ ?_
 refine am rfl (fun hc => ?_) (fun hc => ?_)
 ·replace hc := of_decide_eq_true hc
  refine yS fun _ K17 => ?_
  refine yR ?_
  refine yA rfl rfl ?_
  refine yN ?_
  dsimp only [St.put]
  refine K17 _ ?_
  refine aq ?_
  refine bh rfl (by constructor) zN zS ?_
  exact vi (by
   rw [hdr]
   cases hb : b.drop k with
   | nil => have := congrArg List.length hb; simp at this; omega
   | cons z l => rfl)
 replace hc := of_decide_eq_false hc
 refine aw ?_
 refine K15 _ ?_
 refine yS fun _ K18 => ?_
 refine yR ?_
 refine yA rfl rfl ?_
 refine yN ?_
 dsimp only [St.put]
 refine K18 _ ?_
 refine aq ?_
 refine bh rfl (by constructor) zN zS ?_
 exact vi (by rw [hdr, List.drop_of_length_le (show b.length ≤ k by omega)]; rfl)
end Go.Proofs.YtbbdginipiljdaaGreatDoor
namespace Go.AB
open Go Go.RowKit
open Go.AB.Enc (cells)
open Go.PB (az aj PlaceD bj bl bk)
/-- so many words of a line -/
def tr (p : L2) (k : Nat) : List PlaceD := (List.range k).map fun (i : Nat) => ⟨p.1, p.2, (i : Int)⟩
theorem uld (p : L2) (k : Nat) : (tr p k).length = k := by simp [tr]
def nm (t : aj) (f : L2 → Option L2) (p : L2) : List PlaceD := bif (f p).isSome then tr p ((ia t p).getD []).length else []
def o9 (t : aj) (f : L2 → Option L2) (l : List L2) : List PlaceD := (l.map (nm t f)).flatten
def ng (t : aj) (f : L2 → Option L2) : List PlaceD := o9 t f (ox t)
theorem ula {t : aj} (ht : dq t = true) (f : L2 → Option L2) (p : L2) : (nm t f p).length ≤ 10 := by
 unfold nm
 cases (f p).isSome
 ·exact Nat.zero_le _
 ·rw [cond_true, uld]
  cases h : ia t p with
  | none => exact Nat.zero_le _
  | some l => have := uv ht h; simp only [Option.getD_some]; omega
theorem ugt {t : aj} (ht : dq t = true) (f : L2 → Option L2) (l : List L2) : (o9 t f l).length ≤ 10 * l.length := by
 induction l with
 | nil => exact Nat.zero_le _
 | cons p l ih =>
  have h1 := ula ht f p
  have : (o9 t f (p :: l)).length = (nm t f p).length + (o9 t f l).length := by simp [o9]
  rw [this, List.length_cons]
  omega
theorem uk0 {t : aj} {f : L2 → Option L2} {q : PlaceD} : q ∈ ng t f ↔ fm t q = true ∧ (f (q.ch, q.ln)).isSome = true := by
 unfold ng o9
 rw [List.mem_flatten]
 constructor
 ·rintro ⟨l, hl, hq⟩
  obtain ⟨p, hp, rfl⟩ := List.mem_map.1 hl
  obtain ⟨ws, hw⟩ := mem_lines.1 hp
  unfold nm at hq
  cases hf : (f p).isSome with
  | false => rw [hf] at hq; simp at hq
  | true =>
   rw [hf, cond_true, hw, Option.getD_some] at hq
   obtain ⟨i, hi, rfl⟩ := List.mem_map.1 hq
   rw [List.mem_range] at hi
   exact ⟨placeB_true.2 ⟨ws, hw, by dsimp only; omega, by dsimp only; omega⟩, hf⟩
 ·rintro ⟨h1, h2⟩
  obtain ⟨ws, hw, h3, h4⟩ := placeB_true.1 h1
  refine ⟨_, List.mem_map.2 ⟨(q.ch, q.ln), mem_lines.2 ⟨ws, hw⟩, rfl⟩, ?_⟩
  unfold nm
  rw [h2, cond_true, hw, Option.getD_some]
  refine List.mem_map.2 ⟨q.wd.toNat, List.mem_range.2 (by omega), ?_⟩
  have : ((q.wd.toNat : Nat) : Int) = q.wd := by omega
  rw [this]
/-- the numbers of a place -/
def dh (q : PlaceD) : List Int := [q.ch, q.ln, q.wd]
theorem uls {a b : PlaceD} (h : dh a = dh b) : a = b := by
 obtain ⟨a1, a2, a3⟩ := a
 obtain ⟨b1, b2, b3⟩ := b
 simp only [dh, List.cons.injEq, and_true] at h
 obtain ⟨rfl, rfl, rfl⟩ := h
 rfl
theorem pk : ∀ a : List Int, ¬ ltW a a
 | [] => by simp [ltW]
 | x :: a => by simp only [ltW]; rintro (h | ⟨_, h⟩); omega; exact pk a h
theorem rj : ∀ {a b c : List Int}, ltW a b → ltW b c → ltW a c
 | [], _, _, h, _ => by simp [ltW] at h
 | _ :: _, [], _, h, _ => by simp [ltW] at h
 | _ :: _, _ :: _, [], _, k => by simp [ltW] at k
 | x :: a, y :: b, z :: c, h, k => by
  simp only [ltW] at h k ⊢
  rcases h with h | ⟨h1, h2⟩
  ·rcases k with k | ⟨k1, _⟩
   ·exact .inl (by omega)
   ·exact .inl (by omega)
  ·rcases k with k | ⟨k1, k2⟩
   ·exact .inl (by omega)
   ·exact .inr ⟨by omega, rj h2 k2⟩
theorem zr : ∀ {a b : List Int}, a.length = b.length → ¬ ltW a b → ¬ ltW b a → a = b
 | [], [], _, _, _ => rfl
 | x :: a, y :: b, hl, h, k => by
  simp only [ltW, not_or, not_and] at h k
  have hxy : x = y := by omega
  subst hxy
  rw [zr (by simpa using hl) (h.2 rfl) (k.2 rfl)]
/-! ### What is next to something -/
end Go.AB
namespace Go.AB
open Go Go.RowKit
open Go.AB.Enc (cells)
open Go.PB (az aj PlaceD bj bl bk)
theorem umb {α : Type} {q : α → Bool} {l : List α} {k : Nat} {x : α} (hx : l[k]? = some x) (h : ∀ y ∈ l.take k, q y = false) (hq : q x = true) : l.findIdx q = k := by
 obtain ⟨h1, h2⟩ := List.getElem?_eq_some_iff.1 hx
 rw [List.findIdx_eq h1]
 exact ⟨by rw [h2]; exact hq, fun j hj => h _ (List.mem_of_getElem? (i := j) (by rw [List.getElem?_take_of_lt hj, List.getElem?_eq_getElem (by omega)]))⟩
end Go.AB
namespace Go.Proofs.YtbbdginipiljdaaGreatDoor
set_option maxRecDepth 10000
open Go.RowKit Go.AB
open Go.AB.Enc (cells)
open Go.PB (az aj PlaceD bj bl bk)
/-! ### What is beside something -/
end Go.Proofs.YtbbdginipiljdaaGreatDoor
namespace Go.AB
open Go Go.RowKit
open Go.AB.Enc (cells)
section
variable {P : Program} {o : Oper} {st : St} {K : St → Prop}
/-- Whether a slice is nil: it is not, if something is in it. -/
theorem ue6 {t t' e : TypeId} [Elt P t e] {x : Operand} {rows : List (List C)} {tok : Tok} (ho : o.op = .binOp .eql t x (.const (.slice none 0 0)) t') (hx : evC st x = .list rows tok) (h : ∀ b : Bool, (rows ≠ [] → b = false) → K (st.put o.dst (.v (.bool b)))) : EStep P o st K :=
 kg fun E w a hsim => by
  have hr := hx ▸ hsim.ev x
  obtain ⟨ad, cap, _, _, hv, h1, _, _, _, _, _, h7, _⟩ := R.list_inv hr
  have q1 := Elt.spec (P := P) (t := t) (e := e)
  refine ⟨.bool ad.isNone, w, E, st.G, st.nx, .v (.bool ad.isNone), ?_, Ev.refl E w, .v rfl, hsim.g, h _ fun hne => ?_⟩
  ·have hq := run_equal_slice_nil (P := P) w t e ad rows.length cap q1
   have he2 : a.eval (.const (.slice none 0 0)) = .slice none 0 0 := rfl
   simp [execOp, ho, hv, he2, eqGuard, binOp, hq]
  ·obtain ⟨b, off, rfl, _⟩ := h7.resolve_left hne
   rfl
end
section
variable {ρ : Option Nat} {P : Program} {st : St} {Q : Exit → St → Prop}
end
end Go.AB
namespace Go.Proofs.YtbbdginipiljdaaGreatDoor
open Go.Shelf
def srt_Place_ren : Go.Shelf.Ren := ⟨fun | 6 => 105 | 15 => 117 | 14 => 116 | 28 => 131 | 29 => 132 | 20 => 123 | 21 => 124 | 22 => 125 | 23 => 126 | 24 => 127 | 25 => 128 | 26 => 129 | 27 => 130 | 46 => 134 | 47 => 135 | 48 => 136 | 49 => 137 | 50 => 138 | 57 => 139 | n => n, fun | 22 => 56 | 24 => 61 | 25 => 154 | 3 => 3 | 39 => 180 | 0 => 0 | 53 => 126 | 55 => 193 | 4 => 4 | 46 => 185 | 45 => 184 | 50 => 189 | 5 => 5 | 9 => 9 | 66 => 196 | 70 => 200 | 76 => 202 | 77 => 134 | n => n, fun | n => n⟩
theorem ubt : Go.Proofs.SlLaysF0.n6 Tryz.prog srt_Place_ren := {
 mixed := by kernel_rfl
 f6 := ⟨Tryz.f105.name, by decide, Tryz.func105.trans (congrArg some (by kernel_rfl))⟩
 f14 := ⟨Tryz.f116.name, by decide, Tryz.func116.trans (congrArg some (by kernel_rfl))⟩
 f15 := Tryz.func117.trans (congrArg some (by kernel_rfl))
 f20 := ⟨Tryz.f123.name, by decide, Tryz.func123.trans (congrArg some (by kernel_rfl))⟩
 f21 := ⟨Tryz.f124.name, by decide, Tryz.func124.trans (congrArg some (by kernel_rfl))⟩
 f22 := ⟨Tryz.f125.name, by decide, Tryz.func125.trans (congrArg some (by kernel_rfl))⟩
 f23 := ⟨Tryz.f126.name, by decide, Tryz.func126.trans (congrArg some (by kernel_rfl))⟩
 f24 := ⟨Tryz.f127.name, by decide, Tryz.func127.trans (congrArg some (by kernel_rfl))⟩
 f25 := ⟨Tryz.f128.name, by decide, Tryz.func128.trans (congrArg some (by kernel_rfl))⟩
 f26 := ⟨Tryz.f129.name, by decide, Tryz.func129.trans (congrArg some (by kernel_rfl))⟩
 f27 := ⟨Tryz.f130.name, by decide, Tryz.func130.trans (congrArg some (by kernel_rfl))⟩
 f28 := Tryz.func131.trans (congrArg some (by kernel_rfl))
 f29 := Tryz.func132.trans (congrArg some (by kernel_rfl))
 f46 := ⟨Tryz.f134.name, by decide, Tryz.func134.trans (congrArg some (by kernel_rfl))⟩
 f47 := Tryz.func135.trans (congrArg some (by kernel_rfl))
 f48 := Tryz.func136.trans (congrArg some (by kernel_rfl))
 f49 := ⟨Tryz.f137.name, by decide, Tryz.func137.trans (congrArg some (by kernel_rfl))⟩
 f50 := ⟨Tryz.f138.name, by decide, Tryz.func138.trans (congrArg some (by kernel_rfl))⟩
 f57 := ⟨Tryz.f139.name, by decide, Tryz.func139.trans (congrArg some (by kernel_rfl))⟩
 t0 := Tryz.underlying0
 a0 := Tryz.isAgg0
 z0 := Tryz.sizeOf0
 v0 := Tryz.zeroValue0
 t3 := Tryz.underlying3
 a3 := Tryz.isAgg3
 z3 := Tryz.sizeOf3
 v3 := Tryz.zeroValue3
 t4 := Tryz.underlying4
 a4 := Tryz.isAgg4
 z4 := Tryz.sizeOf4
 v4 := Tryz.zeroValue4
 t5 := Tryz.underlying5
 a5 := Tryz.isAgg5
 z5 := Tryz.sizeOf5
 v5 := Tryz.zeroValue5
 t9 := Tryz.underlying9
 a9 := Tryz.isAgg9
 z9 := Tryz.sizeOf9
 v9 := Tryz.zeroValue9
 t22 := Tryz.underlying56
 a22 := Tryz.isAgg56
 z22 := Tryz.sizeOf56
 v22 := Tryz.zeroValue56
 t25 := Tryz.underlying154
 a25 := Tryz.isAgg154
 z25 := Tryz.sizeOf154
 v25 := Tryz.zeroValue154
 t39 := Tryz.underlying180
 a39 := Tryz.isAgg180
 z39 := Tryz.sizeOf180
 v39 := Tryz.zeroValue180
 t45 := Tryz.underlying184
 a45 := Tryz.isAgg184
 z45 := Tryz.sizeOf184
 v45 := Tryz.zeroValue184
 t46 := Tryz.underlying185
 a46 := Tryz.isAgg185
 z46 := Tryz.sizeOf185
 v46 := Tryz.zeroValue185
 t50 := Tryz.underlying189
 a50 := Tryz.isAgg189
 z50 := Tryz.sizeOf189
 v50 := Tryz.zeroValue189
 t53 := Tryz.underlying126
 a53 := Tryz.isAgg126
 z53 := Tryz.sizeOf126
 v53 := Tryz.zeroValue126
 t55 := Tryz.underlying193
 a55 := Tryz.isAgg193
 z55 := Tryz.sizeOf193
 v55 := Tryz.zeroValue193
 t66 := Tryz.underlying196
 a66 := Tryz.isAgg196
 z66 := Tryz.sizeOf196
 v66 := Tryz.zeroValue196
 t70 := Tryz.underlying200
 a70 := Tryz.isAgg200
 z70 := Tryz.sizeOf200
 v70 := Tryz.zeroValue200
 t76 := Tryz.underlying202
 a76 := Tryz.isAgg202
 z76 := Tryz.sizeOf202
 v76 := Tryz.zeroValue202
 t77 := Tryz.underlying134
 a77 := Tryz.isAgg134
 z77 := Tryz.sizeOf134
 v77 := Tryz.zeroValue134 }
end Go.Proofs.YtbbdginipiljdaaGreatDoor
namespace Go.AB
open Go Go.RowKit
open Go.AB.Enc (cells)
open Go.PB (az aj PlaceD bj bl bk)
theorem ude {α : Type} [DecidableEq α] : ∀ {l m : List α}, l.Nodup → (∀ x ∈ l, x ∈ m) → l.length ≤ m.length
 | [], _, _, _ => Nat.zero_le _
 | x :: l, m, hn, hs => by
  rw [List.nodup_cons] at hn
  have h1 := hs x (List.mem_cons_self ..)
  have h2 := ude (l := l) (m := m.erase x) hn.2 fun y hy => (List.mem_erase_of_ne fun (e : y = x) => hn.1 (e ▸ hy)).2 (hs y (List.mem_cons_of_mem _ hy))
  rw [List.length_erase_of_mem h1] at h2
  have := List.length_pos_of_mem h1
  simp only [List.length_cons]
  omega
end Go.AB
namespace Go.Proofs.YtbbdginipiljdaaGreatDoor
set_option maxRecDepth 10000
open Go.RowKit Go.AB
open Go.AB.Enc (cells)
open Go.PB (az aj PlaceD bj bl bk)
end Go.Proofs.YtbbdginipiljdaaGreatDoor
namespace Go.AB
open Go Go.RowKit
open Go.AB.Enc (cells)
open Go.PB (az aj PlaceD bj bl bk)
end Go.AB
namespace Go.Proofs.YtbbdginipiljdaaGreatDoor
set_option maxRecDepth 10000
open Go.RowKit Go.AB
open Go.AB.Enc (cells)
open Go.PB (az aj PlaceD bj bl bk)
end Go.Proofs.YtbbdginipiljdaaGreatDoor
namespace Go.AB
open Go Go.RowKit
open Go.AB.Enc (cells)
open Go.PB (az aj PlaceD bj bl bk)
theorem ua5 (t : aj) (f : L2 → Option L2) : (ng t f).Pairwise fun a b => ltW (dh a) (dh b) := by
 unfold ng o9
 rw [List.pairwise_flatten]
 constructor
 ·intro l hl
  obtain ⟨p, _, rfl⟩ := List.mem_map.1 hl
  unfold nm
  cases (f p).isSome
  ·exact List.Pairwise.nil
  rw [cond_true]
  unfold tr
  rw [List.pairwise_map]
  refine List.Pairwise.imp (fun {a b} h => ?_) List.pairwise_lt_range
  simp only [dh, ltW]
  refine .inr ⟨trivial, .inr ⟨trivial, .inl ?_⟩⟩
  omega
 rw [List.pairwise_map]
 refine List.Pairwise.imp (fun {p q} h => ?_) (uk8 t)
 intro a ha b hb
 unfold nm at ha hb
 cases hp : (f p).isSome with
 | false => rw [hp] at ha; simp at ha
 | true =>
  cases hq : (f q).isSome with
  | false => rw [hq] at hb; simp at hb
  | true =>
   rw [hp, cond_true] at ha
   rw [hq, cond_true] at hb
   obtain ⟨i, _, rfl⟩ := List.mem_map.1 ha
   obtain ⟨j, _, rfl⟩ := List.mem_map.1 hb
   simp only [dh, ltW]
   rcases h with h | ⟨h1, h2⟩
   ·exact .inl h
   exact .inr ⟨h1, .inl h2⟩
end Go.AB
namespace Go.Proofs.YtbbdginipiljdaaGreatDoor
set_option maxRecDepth 10000
open Go.RowKit Go.AB
open Go.AB.Enc (cells)
open Go.PB (az aj PlaceD bj bl bk)
end Go.Proofs.YtbbdginipiljdaaGreatDoor
namespace Go.AB
open Go Go.RowKit
open Go.PB (az aj PlaceD bj bl bk)
theorem ugq (t : aj) (f : L2 → Option L2) : (ng t f).Nodup :=
 (ua5 t f).imp fun {a b} h e => by subst e; exact pk _ h
end Go.AB
namespace Go.AB
open Go Go.RowKit
open Go.AB.Enc (cells)
open Go.PB (az aj PlaceD bj bl bk)
theorem xv (t : aj) : (jk t).map (·.1) = ng t fun _ => some (1, 1) := by
 have key : ∀ (k n : Nat) (c : az) (l : List ByteArray), t[k]? = some c → c.lines[n]? = some l → nm t (fun _ => some (1, 1)) ((k : Int), (n : Int)) = (j9 k n l).map (·.1) := fun k n c l hc hl => by
  unfold nm
  rw [x7 hc hl]
  simp only [Option.isSome_some, cond_true, Option.getD_some]
  unfold tr j9
  apply List.ext_getElem?
  intro i
  rw [List.getElem?_map, List.getElem?_map, List.getElem?_mapIdx]
  by_cases hi : i < l.length
  ·rw [List.getElem?_range hi, List.getElem?_eq_getElem hi]; rfl
  rw [List.getElem?_eq_none (by simp; omega), List.getElem?_eq_none (by omega)]; rfl
 unfold ng o9 ox jk mj
 rw [List.map_flatten, qh, List.map_flatten, qh, List.flatten_flatten]
 congr 1
 rw [qh]
 apply List.ext_getElem?
 intro k
 rw [List.getElem?_mapIdx, List.getElem?_mapIdx]
 cases hc : t[k]? with
 | none => rfl
 | some c =>
  simp only [Option.map_some]
  congr 1
  rw [List.map_flatten, qh, qh]
  congr 1
  apply List.ext_getElem?
  intro n
  rw [List.getElem?_mapIdx, List.getElem?_mapIdx]
  cases hl : c.lines[n]? with
  | none => rfl
  | some l => simp only [Option.map_some]; rw [key k n c l hc hl]
def isP (p : PlaceD) (x : PW) : Bool := decide (x.1 = p)
/-- so many places are ahead of a place -/
def ra (t : aj) (p : PlaceD) : Nat := (jk t).findIdx (isP p)
theorem unp (t : aj) : ((jk t).map (·.1)).Nodup := by rw [xv]; exact ugq _ _
theorem allP_mem {t : aj} {p : PlaceD} : p ∈ (jk t).map (·.1) ↔ fm t p = true := by
 rw [xv, uk0]; simp
theorem ze {t : aj} {p : PlaceD} {k : Nat} {x : PW} (hx : (jk t)[k]? = some x) (hp : x.1 = p) : ra t p = k := by
 refine umb hx (fun y hy => ?_) (by simp [isP, hp])
 obtain ⟨j, hj⟩ := List.getElem?_of_mem hy
 rw [List.getElem?_take] at hj
 split at hj
 ·rename_i hjk
  refine decide_eq_false fun e => ?_
  exact zf hj hx hjk (f := fun z : PW => z.1) (e.trans hp.symm) (unp t)
 cases hj
theorem wb {t : aj} {p : PlaceD} (hp : fm t p = true) : (ng t fun _ => some (1, 1))[ra t p]? = some p := by
 obtain ⟨x, hx, h⟩ := List.mem_map.1 (allP_mem.2 hp)
 obtain ⟨k, hk⟩ := List.getElem?_of_mem hx
 rw [ze hk h, ← xv, List.getElem?_map, hk]
 simp [h]
theorem ukj {t : aj} {p q : PlaceD} (hp : fm t p = true) (hq : fm t q = true) : ra t p < ra t q ↔ ltW (dh p) (dh q) := by
 obtain ⟨a1, a2⟩ := List.getElem?_eq_some_iff.1 (wb hp)
 obtain ⟨b1, b2⟩ := List.getElem?_eq_some_iff.1 (wb hq)
 have hs := List.pairwise_iff_getElem.1 (ua5 t fun _ => some (1, 1))
 constructor
 ·intro h
  have := hs _ _ a1 b1 h
  rwa [a2, b2] at this
 intro h
 rcases Nat.lt_trichotomy (ra t p) (ra t q) with h1 | h1 | h1
 ·exact h1
 ·have : p = q := by
   have e1 := wb hp
   rw [h1, wb hq] at e1
   exact (Option.some.inj e1).symm
  subst this
  exact absurd h (pk _)
 have := hs _ _ b1 a1 h1
 rw [a2, b2] at this
 exact absurd (rj h this) (pk _)
theorem uf8 {t : aj} (ht : dq t = true) : (jk t).length ≤ 600 := by
 have h1 : ((jk t).map (·.1)).length = (ng t fun _ => some (1, 1)).length := by rw [xv]
 have h2 := ugt ht (fun _ => some (1, 1)) (ox t)
 have h3 := uk9 ht
 unfold ng at h1
 rw [List.length_map] at h1
 omega
end Go.AB
namespace Go.Proofs.YtbbdginipiljdaaGreatDoor
set_option maxRecDepth 10000
open Go.RowKit Go.AB
open Go.AB.Enc (cells)
open Go.PB (az aj PlaceD bj bl bk)
end Go.Proofs.YtbbdginipiljdaaGreatDoor
namespace Go.AB
open Go Go.RowKit
open Go.AB.Enc (cells)
open Go.PB (az aj PlaceD bj bl bk)
/-! ### The order of words -/
/-! ### What the functions give -/
def sk (t : aj) (p : PlaceD) : ByteArray := ((ia t (p.ch, p.ln)).getD [])[p.wd.toNat]?.getD ByteArray.empty
theorem unn {t : aj} {x : PW} (hx : x ∈ jk t) : sk t x.1 = x.2 := by
 unfold jk at hx
 obtain ⟨l, hl, h1⟩ := List.mem_flatten.1 hx
 obtain ⟨k, hk, rfl⟩ := List.mem_mapIdx.1 hl
 unfold mj at h1
 obtain ⟨l2, hl2, h2⟩ := List.mem_flatten.1 h1
 obtain ⟨n, hn, rfl⟩ := List.mem_mapIdx.1 hl2
 unfold j9 at h2
 obtain ⟨w, hw, rfl⟩ := List.mem_mapIdx.1 h2
 unfold sk
 dsimp only
 rw [x7 (List.getElem?_eq_getElem hk) (List.getElem?_eq_getElem hn)]
 simp [hw]
end Go.AB
namespace Go.AB
open Go Go.RowKit
open Go.AB.Enc (cells)
open Go.PB (az aj PlaceD bj bl bk)
def dn (t : aj) : List PlaceD := (jk t).map (·.1)
def gt (t : aj) (k : Nat) (ls : List (List ByteArray)) (n : Nat) : List PlaceD := dn (t.take k) ++ (mj k (ls.take n)).map (·.1)
def mn (t : aj) (k : Nat) (ls : List (List ByteArray)) (n : Nat) (l : List ByteArray) (w : Nat) : List PlaceD := gt t k ls n ++ (j9 k n (l.take w)).map (·.1)
theorem uf5 (t : aj) (k : Nat) (ls : List (List ByteArray)) : dn (t.take k) = gt t k ls 0 := by simp [gt, mj]
theorem uf3 (t : aj) (k : Nat) (ls : List (List ByteArray)) (n : Nat) (l : List ByteArray) : gt t k ls n = mn t k ls n l 0 := by simp [mn, j9]
theorem uf6 {t : aj} {k n : Nat} {c : az} (hk : t[k]? = some c) (hn : c.lines.length ≤ n) : gt t k c.lines n = dn (t.take (k + 1)) := by
 unfold gt dn
 rw [List.take_of_length_le hn, uf7 hk, List.map_append]
theorem unm {t : aj} {k n w : Nat} {ls : List (List ByteArray)} {l : List ByteArray} (hn : ls[n]? = some l) (hw : l.length ≤ w) : mn t k ls n l w = gt t k ls (n + 1) := by
 unfold mn gt
 rw [List.take_of_length_le hw, uao k hn, List.map_append, List.append_assoc]
theorem unl {t : aj} {k n w : Nat} {ls : List (List ByteArray)} {l : List ByteArray} (hw : w < l.length) : mn t k ls n l w ++ [(⟨k, n, w⟩ : PlaceD)] = mn t k ls n l (w + 1) := by
 unfold mn
 rw [ulb k n (List.getElem?_eq_getElem hw), List.map_append, List.append_assoc]; rfl
theorem n8 {t : aj} (ht : dq t = true) : (dn t).length ≤ 600 := by rw [dn, List.length_map]; exact uf8 ht
theorem uf4 {t : aj} (ht : dq t = true) {k n : Nat} {c : az} {l : List ByteArray} (hk : t[k]? = some c) (hn : c.lines[n]? = some l) (w : Nat) : (mn t k c.lines n l w).length ≤ 600 := by
 have h1 := (ugz hk hn w).length_le
 have h2 := uf8 ht
 simp only [List.length_append] at h1
 simp only [mn, gt, dn, List.length_append, List.length_map]
 omega
theorem ucp {t : aj} {p : PlaceD} (hp : fm t p = true) : ∃ (k n w : Nat) (c : az) (l : List ByteArray), p = ⟨k, n, w⟩ ∧ t[k]? = some c ∧ c.lines[n]? = some l ∧ l[w]? = some (sk t p) := by
 obtain ⟨l, hw, h1, h2⟩ := placeB_true.1 hp
 obtain ⟨k, n, c, hkn, hk, hn⟩ := sj hw
 refine ⟨k, n, p.wd.toNat, c, l, ?_, hk, hn, ?_⟩
 ·have e1 : p.ch = (k : Int) := congrArg Prod.fst hkn
  have e2 : p.ln = (n : Int) := congrArg Prod.snd hkn
  obtain ⟨a, b, d⟩ := p
  dsimp only at e1 e2 h1 ⊢
  subst e1; subst e2
  rw [Int.toNat_of_nonneg h1]
 unfold sk
 rw [hw, Option.getD_some, List.getElem?_eq_getElem (by omega)]
 rfl
theorem uf9 {t : aj} {k : Nat} {x : PW} (hx : (jk t)[k]? = some x) : fm t x.1 = true ∧ sk t x.1 = x.2 := by
 have hm := List.mem_of_getElem? hx
 exact ⟨allP_mem.1 (List.mem_map.2 ⟨x, hm, rfl⟩), unn hm⟩
theorem zp {α : Type} {l : List α} {k : Nat} {x : α} {p : α → Prop} (hx : l[k]? = some x) (hp : p x) (h : ∀ y ∈ l.take k, p y) : ∀ y ∈ l.take (k + 1), p y := fun y hy => by
 rw [List.take_add_one, hx] at hy
 simp only [Option.toList_some, List.mem_append, List.mem_singleton] at hy
 rcases hy with hy | rfl
 ·exact h y hy
 exact hp
/-! ### A word in its place -/
end Go.AB
namespace Go.Proofs.YtbbdginipiljdaaGreatDoor
set_option maxRecDepth 10000
open Go.RowKit Go.AB
open Go.AB.Enc (cells)
open Go.PB (az aj PlaceD bj bl bk)
theorem uca (t : aj) (ht : dq t = true) : Pure Tryz.prog 24 [fa t] (lst (dn t)) := by
 refine cw Tryz.func24 rfl (fun m => (cc _ _)) fun G nx => ?_
 simp only [Tryz.ntmps24, List.length_cons, List.length_nil, Nat.reduceAdd, Nat.reduceSub]
 refine bx fun hlt => ?_
 dsimp only at hlt
 obtain ⟨hl1, hl2, hl3⟩ := lu ht
 refine yS fun _ K1 => ?_
 refine yR ?_
 try dsimp only [St.put]
 refine yB rfl rfl rfl ?_
 refine yA rfl rfl ?_
 refine yN ?_
 dsimp only [St.put]
 refine K1 _ ?_
 refine yS fun _ K2 => ?_
 refine yR ?_
 refine yA rfl rfl ?_
 refine yN ?_
 dsimp only [St.put]
 refine K2 _ ?_
 refine lk 3 61 3 rfl (by decide) ?_
 dsimp only [List.set_cons_zero, List.set_cons_succ]
 refine yS fun _ K3 => ?_
 refine yS fun _ K4 => ?_
 refine yR ?_
 refine yA rfl rfl ?_
 refine yN ?_
 dsimp only [St.put]
 refine K4 _ ?_
 refine ay ?_
 refine ci 7 ?_
 refine zQ ?_
 refine c4 (ah G nx (.tip 0 61 3)) zX ?_
 dsimp only
 refine cz (X := Nat) (fun k => k ≤ t.length) (fun k => t.length - k) (fun k => [(3, .list ((dn (t.take k)).map cells) (.tip nx)), (4, .v (.int .i64 (k : Int))), (5, .any), (6, .any)]) (fun k G' => (ah G nx (.tip ((dn (t.take k))).length 61 3))) 0 rfl ?_ ?_ ?_ ?_ ?_ ?_
 ·exact Nat.zero_le _
 ·exact zF
 ·exact zX
 ·rintro k hI
  exact zL
 ·rintro k hI
  exact zH
 rintro k hI
 dsimp only at hI ⊢
 refine yS fun _ K5 => ?_
 refine yS fun _ K6 => ?_
 refine yR ?_
 refine yM rfl rfl ?_
 refine yF rfl rfl rfl rfl ?_
 refine yL rfl rfl rfl ?_
 refine aa rfl (bg rfl rfl (List.length_map _)) ?_
 refine aa rfl (cg rfl rfl rfl) ?_
 refine yN ?_
 dsimp only [St.put]
 refine K6 _ ?_
 refine am rfl (fun hc => ?_) (fun hc => ?_)
 ·replace hc := of_decide_eq_true hc
  obtain ⟨c, hk⟩ : ∃ x, t[k]? = some x := da (by omega)
  have hcl := hl3 c (fg hk)
  refine aw ?_
  refine K5 _ ?_
  refine yS fun _ K7 => ?_
  refine ay ?_
  refine yS fun _ K8 => ?_
  refine yR ?_
  refine yA rfl rfl ?_
  refine yN ?_
  dsimp only [St.put]
  rw [uf5 t k c.lines]
  refine K8 _ ?_
  refine ay ?_
  refine ci 7 ?_
  refine zQ ?_
  refine c4 ((ah G nx (.tip ((gt t k c.lines 0)).length 61 3))) zX ?_
  dsimp only
  refine cz (X := Nat) (fun n => n ≤ c.lines.length) (fun n => c.lines.length - n) (fun n => [(3, .list ((gt t k c.lines n).map cells) (.tip nx)), (5, .v (.int .i64 (n : Int))), (6, .any)]) (fun n G' => (ah G nx (.tip ((gt t k c.lines n)).length 61 3))) 0 rfl ?_ ?_ ?_ ?_ ?_ ?_
  ·exact Nat.zero_le _
  ·exact zF
  ·exact zX
  ·rintro n hI
   exact zL
  ·rintro n hI
   exact zH
  rintro n hJ
  dsimp only at hJ ⊢
  refine yS fun _ K9 => ?_
  refine yS fun _ K10 => ?_
  refine yR ?_
  refine yM rfl rfl ?_
  refine yF rfl rfl rfl rfl ?_
  refine yL rfl rfl rfl ?_
  refine yM rfl rfl ?_
  refine aa rfl (bn rfl rfl rfl rfl (bi (by assumption)) (Enc.len _)) ?_
  refine yF rfl rfl rfl rfl ?_
  refine yL rfl rfl rfl ?_
  refine aa rfl (bg rfl rfl (List.length_map _)) ?_
  refine aa rfl (cg rfl rfl rfl) ?_
  refine yN ?_
  dsimp only [St.put]
  refine K10 _ ?_
  refine am rfl (fun hc => ?_) (fun hc => ?_)
  ·replace hc := of_decide_eq_true hc
   obtain ⟨l, hn⟩ : ∃ x, c.lines[n]? = some x := da (by omega)
   have hll := hcl.2.2 l (fg hn)
   refine aw ?_
   refine K9 _ ?_
   refine yS fun _ K11 => ?_
   refine ay ?_
   refine yS fun _ K12 => ?_
   refine yR ?_
   refine yA rfl rfl ?_
   refine yN ?_
   dsimp only [St.put]
   rw [uf3 t k c.lines n l]
   refine K12 _ ?_
   refine ay ?_
   refine ci 7 ?_
   refine zQ ?_
   refine c4 ((ah G nx (.tip ((mn t k c.lines n l 0)).length 61 3))) zX ?_
   dsimp only
   refine cz (X := Nat) (fun w => w ≤ l.length) (fun w => l.length - w) (fun w => [(3, .list ((mn t k c.lines n l w).map cells) (.tip nx)), (6, .v (.int .i64 (w : Int)))]) (fun w G' => (ah G nx (.tip ((mn t k c.lines n l w)).length 61 3))) 0 rfl ?_ ?_ ?_ ?_ ?_ ?_
   ·exact Nat.zero_le _
   ·exact zF
   ·exact zX
   ·rintro w hI
    exact zL
   ·rintro w hI
    exact zH
   rintro w hW
   dsimp only at hW ⊢
   refine yS fun _ K13 => ?_
   refine yS fun _ K14 => ?_
   refine yR ?_
   refine yM rfl rfl ?_
   refine yF rfl rfl rfl rfl ?_
   refine yL rfl rfl rfl ?_
   refine yM rfl rfl ?_
   refine aa rfl (bn rfl rfl rfl rfl (bi (by assumption)) (Enc.len _)) ?_
   refine yF rfl rfl rfl rfl ?_
   refine yL rfl rfl rfl ?_
   refine yM rfl rfl ?_
   refine aa rfl (bn rfl rfl rfl rfl (bi (by assumption)) (Enc.len _)) ?_
   refine yL rfl rfl rfl ?_
   refine aa rfl (bg rfl rfl (List.length_map _)) ?_
   refine aa rfl (cg rfl rfl rfl) ?_
   refine yN ?_
   dsimp only [St.put]
   refine K14 _ ?_
   refine am rfl (fun hc => ?_) (fun hc => ?_)
   ·replace hc := of_decide_eq_true hc
    have hlen := uf4 ht hk hn w
    refine aw ?_
    refine K13 _ ?_
    refine yS fun _ K15 => ?_
    refine ay ?_
    refine yR ?_
    refine yM rfl rfl ?_
    refine yM rfl rfl ?_
    refine yM rfl rfl ?_
    refine yM rfl rfl ?_
    refine aa rfl (gd rfl rfl) ?_
    try dsimp only [St.put]
    refine ae rfl (eg rfl rfl rfl (by decide) (by decide) zR (by decide) ?_)
    try dsimp only [St.put]
    refine ae rfl (ib ([(⟨k, n, w⟩ : PlaceD)]) rfl rfl zG zE rfl rfl zA ?_ zA)
    refine yA rfl rfl ?_
    refine yN ?_
    dsimp only [St.put]
    refine K15 _ ?_
    refine yR ?_
    refine yM rfl rfl ?_
    refine aa rfl (bp rfl rfl rfl (by omega)) ?_
    refine yA rfl rfl ?_
    refine yN ?_
    dsimp only [St.put]
    rw [unl (w := w) (by omega)]
    exact ⟨w + 1, by omega, by omega, ⟨⟨rfl, rfl⟩, zF, zB, zN, zX⟩⟩
   try replace hc := of_decide_eq_false hc
   refine cr ?_
   refine K11 _ ?_
   refine yR ?_
   refine yM rfl rfl ?_
   refine aa rfl (bp rfl rfl rfl (by omega)) ?_
   refine yA rfl rfl ?_
   refine yN ?_
   dsimp only [St.put]
   rw [unm (k := k) (w := w) hn (by omega)]
   exact ⟨n + 1, by omega, by omega, ⟨⟨rfl, rfl⟩, zF, zB, zN, zX⟩⟩
  try replace hc := of_decide_eq_false hc
  refine cr ?_
  refine K7 _ ?_
  refine yR ?_
  refine yM rfl rfl ?_
  refine aa rfl (bp rfl rfl rfl (by omega)) ?_
  refine yA rfl rfl ?_
  refine yN ?_
  dsimp only [St.put]
  rw [uf6 (n := n) hk (by omega)]
  exact ⟨k + 1, by omega, by omega, ⟨⟨rfl, rfl⟩, zF, zB, zN, zX⟩⟩
 try replace hc := of_decide_eq_false hc
 refine cr ?_
 refine K3 _ ?_
 refine yS fun _ K16 => ?_
 refine yR ?_
 refine yM rfl rfl ?_
 refine yA rfl rfl ?_
 refine yN ?_
 dsimp only [St.put]
 rw [el (show t.length ≤ k by omega)]
 refine K16 _ ?_
 refine aq ?_
 refine lj rfl (du (by constructor)) zN zS ?_
 exact zW
end Go.Proofs.YtbbdginipiljdaaGreatDoor
namespace Go.AB
/-- a sum -/
def sm : Nat → (Nat → Int) → Int
 | 0, _ => 0
 | n + 1, g => sm n g + g n
theorem sx : ∀ {n : Nat} {g h : Nat → Int}, (∀ i, i < n → g i ≤ h i) → sm n g ≤ sm n h
 | 0, _, _, _ => Int.le_refl _
 | n + 1, g, h, H => by
  have h1 := sx (n := n) fun i hi => H i (by omega)
  have h2 := H n (by omega)
  simp only [sm]; omega
theorem om : ∀ {n : Nat} {g h : Nat → Int}, (∀ i, i < n → g i = h i) → sm n g = sm n h
 | 0, _, _, _ => rfl
 | n + 1, g, h, H => by
  have h1 := om (n := n) fun i hi => H i (by omega)
  have h2 := H n (by omega)
  simp only [sm]; omega
theorem qv : ∀ (n : Nat) (g h : Nat → Int), sm n (fun i => g i + h i) = sm n g + sm n h
 | 0, _, _ => rfl
 | n + 1, g, h => by have := qv n g h; simp only [sm]; omega
theorem sv : ∀ (n : Nat) (g h : Nat → Int), sm n (fun i => g i - h i) = sm n g - sm n h
 | 0, _, _ => rfl
 | n + 1, g, h => by have := sv n g h; simp only [sm]; omega
theorem ve : ∀ n : Nat, sm n (fun _ => 0) = 0
 | 0 => rfl
 | n + 1 => by have := ve n; simp only [sm]; omega
theorem uhs {n : Nat} {g : Nat → Int} (H : ∀ i, i < n → 0 ≤ g i) : 0 ≤ sm n g := by
 have := sx (g := fun _ => 0) H
 rwa [ve] at this
theorem sw : ∀ {n k : Nat} (_ : k < n) (v : Int), sm n (fun i => bif decide (i = k) then v else 0) = v
 | 0, _, h, _ => absurd h (Nat.not_lt_zero _)
 | n + 1, k, h, v => by
  simp only [sm]
  by_cases e : n = k
  ·subst e
   rw [om (h := fun _ => 0) (fun i hi => by rw [decide_eq_false (by omega)]; rfl), ve, decide_eq_true rfl]
   simp
  ·rw [sw (n := n) (by omega) v, decide_eq_false e]
   simp
/-- pages, each with a first and a second reader, or one of them, or none -/
structure Net where
 nF : Nat
 nr : Nat
 np : Nat
 fr : Nat → Option Nat
 sc : Nat → Option Nat
structure Net.Ok (N : Net) : Prop where
 le : N.nF ≤ N.nr
 fr : ∀ j i, N.fr j = some i → i < N.nF
 sc : ∀ j i, N.sc j = some i → N.nF ≤ i ∧ i < N.nr
def ob (S : Nat → Bool) : Option Nat → Bool
 | none => false
 | some i => S i
def Net.hit (N : Net) (S : Nat → Bool) (j : Nat) : Bool := ob S (N.fr j) || ob S (N.sc j)
/-- who reads a page -/
def Net.by (N : Net) (j i : Nat) : Bool := decide (N.fr j = some i) || decide (N.sc j = some i)
/-- what a set of readers proves -/
def Net.f (N : Net) (R C : Nat → Int) (S : Nat → Bool) : Int := sm N.nr (fun i => bif S i then R i else 0) + sm N.np (fun j => bif N.hit S j then 0 else C j)
section
variable {N : Net} {R C : Nat → Int}
theorem Net.Ok.by_lt (h : N.Ok) {j i : Nat} (hb : N.by j i = true) : i < N.nr := by
 simp only [Net.by, Bool.or_eq_true, decide_eq_true_eq] at hb
 rcases hb with e | e
 ·have := h.fr j i e; have := h.le; omega
 ·exact (h.sc j i e).2
theorem Net.hit_iff {S : Nat → Bool} {j : Nat} : N.hit S j = true ↔ ∃ i, N.by j i = true ∧ S i = true := by
 unfold Net.hit Net.by
 constructor
 ·intro h
  rw [Bool.or_eq_true] at h
  rcases h with h | h
  ·cases e : N.fr j with
   | none => rw [e] at h; cases h
   | some i => rw [e] at h; exact ⟨i, by simp, h⟩
  ·cases e : N.sc j with
   | none => rw [e] at h; cases h
   | some i => rw [e] at h; exact ⟨i, by simp, h⟩
 ·rintro ⟨i, h1, h2⟩
  simp only [Bool.or_eq_true, decide_eq_true_eq] at h1 ⊢
  rcases h1 with e | e
  ·rw [e]; exact .inl h2
  ·rw [e]; exact .inr h2
theorem Net.f_congr (hN : N.Ok) {S S' : Nat → Bool} (h : ∀ i, i < N.nr → S i = S' i) : N.f R C S = N.f R C S' := by
 have h2 : ∀ j, N.hit S j = N.hit S' j := fun j => by
  rw [Bool.eq_iff_iff, Net.hit_iff, Net.hit_iff]
  exact ⟨fun ⟨i, q1, q2⟩ => ⟨i, q1, (h i (hN.by_lt q1)) ▸ q2⟩, fun ⟨i, q1, q2⟩ => ⟨i, q1, (h i (hN.by_lt q1)).symm ▸ q2⟩⟩
 have e1 : sm N.nr (fun i => bif S i then R i else 0) = sm N.nr (fun i => bif S' i then R i else 0) := om fun i hi => by rw [h i hi]
 have e2 : sm N.np (fun j => bif N.hit S j then 0 else C j) = sm N.np (fun j => bif N.hit S' j then 0 else C j) := om fun j _ => by rw [h2 j]
 unfold Net.f
 rw [e1, e2]
/-- two sets of readers, crossed -/
def m6 (nF : Nat) (S T : Nat → Bool) (i : Nat) : Bool := bif decide (i < nF) then S i || T i else S i && T i
def m5 (nF : Nat) (S T : Nat → Bool) (i : Nat) : Bool := bif decide (i < nF) then S i && T i else S i || T i
theorem Net.cross (hN : N.Ok) (hC : ∀ j, j < N.np → 0 ≤ C j) (S T : Nat → Bool) : N.f R C (m6 N.nF S T) + N.f R C (m5 N.nF S T) ≤ N.f R C S + N.f R C T := by
 have h1 : sm N.nr (fun i => bif m6 N.nF S T i then R i else 0) + sm N.nr (fun i => bif m5 N.nF S T i then R i else 0) = sm N.nr (fun i => bif S i then R i else 0) + sm N.nr (fun i => bif T i then R i else 0) := by
  rw [← qv, ← qv]
  refine om fun i _ => ?_
  unfold m6 m5
  cases decide (i < N.nF) <;> cases S i <;> cases T i <;> simp
 have h2 : sm N.np (fun j => bif N.hit (m6 N.nF S T) j then 0 else C j) + sm N.np (fun j => bif N.hit (m5 N.nF S T) j then 0 else C j) ≤ sm N.np (fun j => bif N.hit S j then 0 else C j) + sm N.np (fun j => bif N.hit T j then 0 else C j) := by
  rw [← qv, ← qv]
  refine sx fun j hj => ?_
  have hc := hC j hj
  have e1 : ∀ U V : Nat → Bool, ob (m6 N.nF U V) (N.fr j) = (ob U (N.fr j) || ob V (N.fr j)) := fun U V => by
   cases e : N.fr j with
   | none => rfl
   | some i => simp only [ob, m6, decide_eq_true (hN.fr j i e), cond_true]
  have e2 : ∀ U V : Nat → Bool, ob (m5 N.nF U V) (N.fr j) = (ob U (N.fr j) && ob V (N.fr j)) := fun U V => by
   cases e : N.fr j with
   | none => rfl
   | some i => simp only [ob, m5, decide_eq_true (hN.fr j i e), cond_true]
  have e3 : ∀ U V : Nat → Bool, ob (m6 N.nF U V) (N.sc j) = (ob U (N.sc j) && ob V (N.sc j)) := fun U V => by
   cases e : N.sc j with
   | none => rfl
   | some i => have := hN.sc j i e; simp only [ob, m6, decide_eq_false (show ¬ i < N.nF by omega), cond_false]
  have e4 : ∀ U V : Nat → Bool, ob (m5 N.nF U V) (N.sc j) = (ob U (N.sc j) || ob V (N.sc j)) := fun U V => by
   cases e : N.sc j with
   | none => rfl
   | some i => have := hN.sc j i e; simp only [ob, m5, decide_eq_false (show ¬ i < N.nF by omega), cond_false]
  simp only [Net.hit, e1, e2, e3, e4]
  cases ob S (N.fr j) <;> cases ob T (N.fr j) <;> cases ob S (N.sc j) <;> cases ob T (N.sc j) <;> simp <;> omega
 unfold Net.f
 omega
/-- so much less for the readers of a page, and nothing more on it -/
def Net.lessR (N : Net) (R : Nat → Int) (j : Nat) (n : Int) (i : Nat) : Int := bif N.by j i then R i - n else R i
def ep (C : Nat → Int) (j k : Nat) : Int := bif decide (k = j) then 0 else C k
def cnt (S : Nat → Bool) (o : Option Nat) (n : Int) : Int := bif ob S o then n else 0
theorem Net.f_less (hN : N.Ok) {j : Nat} (hj : j < N.np) (n : Int) (S : Nat → Bool) : N.f (N.lessR R j n) (ep C j) S = N.f R C S - cnt S (N.fr j) n - cnt S (N.sc j) n - (bif N.hit S j then 0 else C j) := by
 have h1 : sm N.np (fun k => bif N.hit S k then 0 else ep C j k) = sm N.np (fun k => bif N.hit S k then 0 else C k) - (bif N.hit S j then 0 else C j) := by
  have := sw hj (bif N.hit S j then 0 else C j)
  rw [← this, ← sv]
  refine om fun k _ => ?_
  by_cases e : k = j
  ·subst e; simp [ep]
  ·simp [ep, e]
 have h2 : ∀ o : Option Nat, (∀ i, o = some i → i < N.nr) → sm N.nr (fun i => bif decide (o = some i) then (bif S i then n else 0) else 0) = cnt S o n := fun o ho => by
  cases o with
  | none => simp only [cnt, ob, cond_false]; rw [om (h := fun _ => 0) (fun i _ => by simp), ve]
  | some k =>
   have := sw (ho k rfl) (bif S k then n else 0)
   rw [om (h := fun i => bif decide (i = k) then (bif S k then n else 0) else 0)]
   ·exact this
   ·intro i _
    by_cases e : i = k
    ·subst e; simp
    ·simp [e, Ne.symm e]
 have h3 : sm N.nr (fun i => bif S i then N.lessR R j n i else 0) = sm N.nr (fun i => bif S i then R i else 0) - cnt S (N.fr j) n - cnt S (N.sc j) n := by
  rw [← h2 (N.fr j) (fun i e => by have := hN.fr j i e; have := hN.le; omega), ← h2 (N.sc j) (fun i e => (hN.sc j i e).2), ← sv, ← sv]
  refine om fun i _ => ?_
  unfold Net.lessR Net.by
  have hx : ¬ (N.fr j = some i ∧ N.sc j = some i) := fun ⟨q1, q2⟩ => by have := hN.fr j i q1; have := (hN.sc j i q2).1; omega
  by_cases q1 : N.fr j = some i
  ·have q2 : ¬ N.sc j = some i := fun q2 => hx ⟨q1, q2⟩
   cases S i <;> simp [q1, q2]
  ·by_cases q2 : N.sc j = some i
   ·cases S i <;> simp [q1, q2]
   ·cases S i <;> simp [q1, q2]
 unfold Net.f
 rw [h1, h3]
 omega
/-- the least of some numbers, as it is looked for -/
def jl (g : Nat → Int) : Nat → Int
 | 0 => g 0
 | k + 1 => min (jl g k) (g k)
theorem udq {g : Nat → Int} : ∀ {k s : Nat}, s < k ∨ s = 0 → jl g k ≤ g s
 | 0, s, h => by
  obtain rfl : s = 0 := by omega
  exact Int.le_refl _
 | k + 1, s, h => by
  by_cases e : s = k
  ·subst e; exact Int.min_le_right _ _
  ·have := udq (g := g) (k := k) (s := s) (by omega)
   exact Int.le_trans (Int.min_le_left _ _) this
theorem zm {g : Nat → Int} : ∀ k : Nat, ∃ s, (s < k ∨ s = 0) ∧ jl g k = g s
 | 0 => ⟨0, .inr rfl, rfl⟩
 | k + 1 => by
  obtain ⟨s, h1, h2⟩ := zm (g := g) k
  by_cases e : jl g k ≤ g k
  ·exact ⟨s, by omega, by rw [jl, Int.min_eq_left e, h2]⟩
  ·exact ⟨k, by omega, by rw [jl, Int.min_eq_right (by omega)]⟩
/-- a set as a number -/
def pu (S : Nat → Bool) : Nat → Nat
 | 0 => 0
 | n + 1 => pu S n ||| (bif S n then 2 ^ n else 0)
theorem ufi (S : Nat → Bool) : ∀ n, pu S n < 2 ^ n
 | 0 => by simp [pu]
 | n + 1 => by
  have h := ufi S n
  have h2 : 2 ^ n < 2 ^ (n + 1) := Nat.pow_lt_pow_right (by omega) (by omega)
  unfold pu
  refine Nat.or_lt_two_pow (by omega) ?_
  cases S n
  ·exact Nat.two_pow_pos _
  ·exact h2
theorem ufj (S : Nat → Bool) : ∀ n i, (pu S n).testBit i = (decide (i < n) && S i)
 | 0, i => by simp [pu]
 | n + 1, i => by
  have h := ufj S n i
  unfold pu
  rw [Nat.testBit_or, h]
  by_cases e : i = n
  ·subst e
   cases hS : S i <;> simp
  ·have e2 : decide (i < n + 1) = decide (i < n) := by rw [decide_eq_decide]; omega
   rw [e2]
   cases hS : S n
   ·simp
   ·simp only [cond_true, Nat.testBit_two_pow]
    rw [decide_eq_false (Ne.symm e), Bool.or_false]
def Net.most (N : Net) (R C : Nat → Int) : Int := jl (fun s => N.f R C fun i => s.testBit i) (2 ^ N.nr)
theorem Net.most_le (hN : N.Ok) (S : Nat → Bool) : N.most R C ≤ N.f R C S := by
 have h := udq (g := fun s => N.f R C fun i => s.testBit i) (k := 2 ^ N.nr) (s := pu S N.nr) (.inl (ufi S _))
 refine Int.le_trans h (Int.le_of_eq (Net.f_congr hN fun i hi => ?_))
 rw [ufj, decide_eq_true hi, Bool.true_and]
theorem Net.most_get (N : Net) (R C : Nat → Int) : ∃ S : Nat → Bool, N.most R C = N.f R C S := by
 obtain ⟨s, _, h⟩ := zm (g := fun s => N.f R C fun i => s.testBit i) (2 ^ N.nr)
 exact ⟨fun i => s.testBit i, h⟩
def ow (n : Int) (R : Nat → Int) : Option Nat → Int
 | none => n
 | some i => min n (R i)
/-- the most on one page -/
def Net.alone (N : Net) (R C : Nat → Int) (j : Nat) : Int := ow (ow (C j) R (N.fr j)) R (N.sc j)
theorem udo {n m : Int} {o : Option Nat} : m ≤ ow n R o ↔ m ≤ n ∧ ∀ i, o = some i → m ≤ R i := by
 cases o with
 | none => simp [ow]
 | some k => simp only [ow, Int.le_min, Option.some.injEq, forall_eq']
theorem Net.le_alone {j : Nat} {m : Int} : m ≤ N.alone R C j ↔ m ≤ C j ∧ ∀ i, N.by j i = true → m ≤ R i := by
 unfold Net.alone Net.by
 rw [udo, udo]
 simp only [Bool.or_eq_true, decide_eq_true_eq]
 exact ⟨fun ⟨⟨h1, h2⟩, h3⟩ => ⟨h1, fun i hi => hi.elim (h2 i) (h3 i)⟩, fun ⟨h1, h2⟩ => ⟨⟨h1, fun i hi => h2 i (.inl hi)⟩, fun i hi => h2 i (.inr hi)⟩⟩
/-- what remains, and so much less of it -/
theorem Net.less_le (hN : N.Ok) {j : Nat} (hj : j < N.np) {n : Int} (h0 : 0 ≤ n) (hn : n ≤ C j) : n + N.most (N.lessR R j n) (ep C j) ≤ N.most R C := by
 obtain ⟨S, hS⟩ := N.most_get R C
 have h1 := Net.most_le (R := N.lessR R j n) (C := ep C j) hN S
 rw [Net.f_less hN hj] at h1
 rw [hS]
 cases e : N.hit S j
 ·rw [e] at h1
  have e2 := e
  unfold Net.hit at e2
  rw [Bool.or_eq_false_iff] at e2
  simp only [cnt, e2.1, e2.2, cond_false] at h1
  omega
 ·rw [e] at h1
  unfold Net.hit at e
  rw [Bool.or_eq_true] at e
  unfold cnt at h1
  rcases e with q | q
  ·rw [q] at h1
   cases e2 : ob S (N.sc j) <;> rw [e2] at h1 <;> simp only [cond_true, cond_false] at h1 <;> omega
  ·rw [q] at h1
   cases e2 : ob S (N.fr j) <;> rw [e2] at h1 <;> simp only [cond_true, cond_false] at h1 <;> omega
/-- of each page there is a worst number of errors -/
theorem Net.greedy (hN : N.Ok) (hR : ∀ i, i < N.nr → 0 ≤ R i) (hC : ∀ j, j < N.np → 0 ≤ C j) {j : Nat} (hj : j < N.np) : ∃ n : Int, 0 ≤ n ∧ n ≤ N.alone R C j ∧ N.most R C ≤ n + N.most (N.lessR R j n) (ep C j) := by
 -- the largest number that every set allows
 have hcj := hC j hj
 have hal : 0 ≤ N.alone R C j := Net.le_alone.2 ⟨hcj, fun i hi => hR i (hN.by_lt hi)⟩
 have key : ∀ n : Int, 0 ≤ n → n ≤ N.alone R C j → (∀ S, ob S (N.fr j) = true → ob S (N.sc j) = true → N.most R C ≤ N.f R C S - n) → (n = N.alone R C j ∨ ∃ S, ob S (N.fr j) = true ∧ ob S (N.sc j) = true ∧ N.f R C S - n = N.most R C) → N.most R C ≤ n + N.most (N.lessR R j n) (ep C j) := by
  intro n h0 h1 h2 h3
  obtain ⟨S, hS⟩ := N.most_get (N.lessR R j n) (ep C j)
  rw [hS, Net.f_less hN hj]
  have hm := Net.most_le (R := R) (C := C) hN S
  cases e1 : ob S (N.fr j) <;> cases e2 : ob S (N.sc j)
  ·have e : N.hit S j = false := by simp [Net.hit, e1, e2]
   simp only [cnt, e1, e2, e, cond_false]
   -- no reader of the page is in the set
   rcases h3 with h3 | ⟨T, t1, t2, t3⟩
   ·-- as1 much as1 can be: the page itself, or a reader
    by_cases hc : n = C j
    ·omega
    ·have h4 := (Net.le_alone.1 h1).1
     obtain ⟨i, hi, hri⟩ : ∃ i, N.by j i = true ∧ R i = n := by
      refine Classical.byContradiction fun hno => ?_
      have : n + 1 ≤ N.alone R C j := Net.le_alone.2 ⟨by omega, fun i hi => by
       have q1 := (Net.le_alone.1 h1).2 i hi
       have q2 : R i ≠ n := fun q => hno ⟨i, hi, q⟩
       omega⟩
      omega
     -- the set with that reader
     have h5 := Net.most_le (R := R) (C := C) hN (fun k => S k || decide (k = i))
     have h6 : N.f R C (fun k => S k || decide (k = i)) ≤ N.f R C S + R i - C j := by
      have g1 : sm N.nr (fun k => bif (S k || decide (k = i)) then R k else 0) ≤ sm N.nr (fun k => bif S k then R k else 0) + R i := by
       have := sw (hN.by_lt hi) (R i)
       rw [← this, ← qv]
       refine sx fun k hk => ?_
       have := hR k hk
       by_cases q : k = i
       ·subst q; cases S k <;> simp <;> omega
       ·cases S k <;> simp [q]
      have g2 : sm N.np (fun k => bif N.hit (fun k => S k || decide (k = i)) k then 0 else C k) ≤ sm N.np (fun k => bif N.hit S k then 0 else C k) - C j := by
       have := sw hj (C j)
       rw [← this, ← sv]
       refine sx fun k hk => ?_
       have hck := hC k hk
       have mono : N.hit S k = true → N.hit (fun k => S k || decide (k = i)) k = true := fun q => by
        obtain ⟨x, x1, x2⟩ := Net.hit_iff.1 q
        exact Net.hit_iff.2 ⟨x, x1, by simp [x2]⟩
       by_cases q : k = j
       ·subst q
        rw [show N.hit (fun k => S k || decide (k = i)) k = true from Net.hit_iff.2 ⟨i, hi, by simp⟩, e]
        simp
       ·rw [decide_eq_false q]
        cases q1 : N.hit S k
        ·cases N.hit (fun k => S k || decide (k = i)) k <;> simp <;> omega
        ·rw [mono q1]; simp
      unfold Net.f
      dsimp only
      omega
     omega
   ·-- crossed with a set that has both
    have hx := Net.cross (R := R) (C := ep C j) hN (fun k hk => by unfold ep; cases decide (k = j) <;> simp; exact hC k hk) S T
    have hsub : ∀ U : Nat → Bool, N.f R (ep C j) U = N.f R C U - (bif N.hit U j then 0 else C j) := fun U => by
     have := Net.f_less (R := R) (C := C) hN hj 0 U
     have e0 : N.lessR R j 0 = R := by funext i; unfold Net.lessR; cases N.by j i <;> simp
     rw [e0] at this
     rw [this]
     unfold cnt
     cases ob U (N.fr j) <;> cases ob U (N.sc j) <;> simp
    rw [hsub, hsub, hsub, hsub, e, show N.hit T j = true by simp [Net.hit, t1]] at hx
    obtain ⟨a, ha⟩ : ∃ a, N.fr j = some a := by cases q : N.fr j with
     | none => rw [q] at t1; cases t1
     | some a => exact ⟨a, rfl⟩
    obtain ⟨b, hb⟩ : ∃ b, N.sc j = some b := by cases q : N.sc j with
     | none => rw [q] at t2; cases t2
     | some b => exact ⟨b, rfl⟩
    rw [ha] at t1
    rw [hb] at t2
    have hA : N.hit (m6 N.nF S T) j = true := by
     simp only [Net.hit, ha, ob, m6, decide_eq_true (hN.fr j a ha), cond_true]
     rw [show T a = true from t1]; simp
    have hB : N.hit (m5 N.nF S T) j = true := by
     have := hN.sc j b hb
     simp only [Net.hit, hb, ob, m5, decide_eq_false (show ¬ b < N.nF by omega), cond_false]
     rw [show T b = true from t2]; simp
    rw [hA, hB] at hx
    simp only [cond_true, cond_false] at hx
    have q1 := Net.most_le (R := R) (C := C) hN (m6 N.nF S T)
    have q2 := Net.most_le (R := R) (C := C) hN (m5 N.nF S T)
    omega
  ·have e : N.hit S j = true := by simp [Net.hit, e2]
   simp only [cnt, e1, e2, e, cond_false, cond_true]
   omega
  ·have e : N.hit S j = true := by simp [Net.hit, e1]
   simp only [cnt, e1, e2, e, cond_false, cond_true]
   omega
  ·have e : N.hit S j = true := by simp [Net.hit, e1]
   simp only [cnt, e1, e2, e, cond_true]
   have := h2 S e1 e2
   omega
 by_cases hb : ∀ S, ob S (N.fr j) = true → ob S (N.sc j) = true → N.most R C ≤ N.f R C S - N.alone R C j
 ·exact ⟨_, hal, Int.le_refl _, key _ hal (Int.le_refl _) hb (.inl rfl)⟩
 ·-- the qj of those that have both
  have : ∃ m : Int, (∃ S, ob S (N.fr j) = true ∧ ob S (N.sc j) = true ∧ N.f R C S = m) ∧ ∀ S, ob S (N.fr j) = true → ob S (N.sc j) = true → m ≤ N.f R C S := by
   obtain ⟨S0, s1, s2⟩ : ∃ S, ob S (N.fr j) = true ∧ ob S (N.sc j) = true := by
    refine Classical.byContradiction fun hno => hb fun S h1 h2 => absurd ⟨S, h1, h2⟩ hno
   have hlow : ∀ S, ob S (N.fr j) = true → ob S (N.sc j) = true → N.most R C ≤ N.f R C S := fun S _ _ => Net.most_le hN S
   generalize hd : (N.f R C S0 - N.most R C).toNat = d
   induction d using Nat.strongRecOn generalizing S0 with
   | _ d ih =>
    by_cases hmin : ∀ S, ob S (N.fr j) = true → ob S (N.sc j) = true → N.f R C S0 ≤ N.f R C S
    ·exact ⟨_, ⟨S0, s1, s2, rfl⟩, hmin⟩
    ·obtain ⟨S1, hS1⟩ := Classical.not_forall.1 hmin
     obtain ⟨t1, hS2⟩ := Classical.not_imp.1 hS1
     obtain ⟨t2, hS3⟩ := Classical.not_imp.1 hS2
     have hl1 := hlow S1 t1 t2
     have hl0 := hlow S0 s1 s2
     exact ih _ (by omega) S1 t1 t2 rfl
  obtain ⟨m, ⟨S, q1, q2, q3⟩, q4⟩ := this
  have hm := Net.most_le (R := R) (C := C) hN S
  have hlt : m - N.most R C < N.alone R C j := by
   refine Classical.byContradiction fun hno => hb fun T t1 t2 => ?_
   have := q4 T t1 t2
   omega
  exact ⟨m - N.most R C, by omega, by omega, key _ (by omega) (by omega) (fun T t1 t2 => by have := q4 T t1 t2; omega) (.inr ⟨S, q1, q2, by omega⟩)⟩
end
end Go.AB
namespace Go.PB
structure bw where
 id : Int
 miss : Int
 deriving DecidableEq
structure av where
 fr : Int
 to : Int
 fst : Int
 snd : Int
 found : List PlaceD
 well : List PlaceD
 deriving DecidableEq
structure ai where
 text : aj
 firsts : List bw
 seconds : List bw
 pages : List av
 deriving DecidableEq
/-- proofs at work -/
structure c6 where
 p : ai
 words : List Int
 all : List (List PlaceD)
 both : List (List PlaceD)
structure cv where
 lo : Int
 hi : Int
 deriving DecidableEq
end Go.PB
namespace Go.AB
open Go Go.RowKit
open Go.AB.Enc (cells)
open Go.PB (az aj PlaceD bj bl bk bw av ai c6 cv)
instance : Enc bw := ⟨fun x => [.v (.int .i64 x.id), .v (.int .i64 x.miss)], 2, fun _ => rfl, fun m x c h => by
 simp only [List.mem_cons, List.not_mem_nil, or_false] at h; rcases h with rfl | rfl <;> exact .v, fun x c h => by
 simp only [List.mem_cons, List.not_mem_nil, or_false] at h; rcases h with rfl | rfl <;> rfl⟩
instance : Enc cv := ⟨fun x => [.v (.int .i64 x.lo), .v (.int .i64 x.hi)], 2, fun _ => rfl, fun m x c h => by
 simp only [List.mem_cons, List.not_mem_nil, or_false] at h; rcases h with rfl | rfl <;> exact .v, fun x c h => by
 simp only [List.mem_cons, List.not_mem_nil, or_false] at h; rcases h with rfl | rfl <;> rfl⟩
instance : Enc av := ⟨fun x => [.v (.int .i64 x.fr), .v (.int .i64 x.to), .v (.int .i64 x.fst), .v (.int .i64 x.snd), lst x.found, lst x.well], 6, fun _ => rfl, fun m x c h => by
 simp only [List.mem_cons, List.not_mem_nil, or_false] at h
 rcases h with rfl | rfl | rfl | rfl | rfl | rfl
 ·exact .v
 ·exact .v
 ·exact .v
 ·exact .v
 ·exact cc m _
 ·exact cc m _, fun x c h => by
 simp only [List.mem_cons, List.not_mem_nil, or_false] at h; rcases h with rfl | rfl | rfl | rfl | rfl | rfl <;> rfl⟩
instance : Enc ai := ⟨fun x => [lst x.text, lst x.firsts, lst x.seconds, lst x.pages], 4, fun _ => rfl, fun m x c h => by
 simp only [List.mem_cons, List.not_mem_nil, or_false] at h
 rcases h with rfl | rfl | rfl | rfl
 ·exact cc m _
 ·exact cc m _
 ·exact cc m _
 ·exact cc m _, fun x c h => by
 simp only [List.mem_cons, List.not_mem_nil, or_false] at h; rcases h with rfl | rfl | rfl | rfl <;> rfl⟩
/-! ### Lines of a text -/
/-- the number of a chapter's first line -/
def fu (t : aj) (k : Nat) : Nat := ((t.take k).map fun c => c.lines.length).sum
theorem ubr (t : aj) : fu t 0 = 0 := by simp [fu]
theorem su {t : aj} {k : Nat} {c : az} (h : t[k]? = some c) : fu t (k + 1) = fu t k + c.lines.length := by
 unfold fu
 rw [List.take_add_one, h]
 simp
def mu (t : aj) : Nat := fu t t.length
/-- the number of the line of a place -/
def qi (t : aj) (q : PlaceD) : Int := q.ln + (fu t q.ch.toNat : Int)
def fk (t : aj) (x : av) (q : PlaceD) : Bool := inB (qi t q) x.fr x.to
/-! ### Valid proofs -/
def nd (a b : PlaceD) : Bool := decide (fb (dh a) (dh b) < 0)
/-- a place of a list may stand where it does -/
def jn (t : aj) (x : av) (l : List PlaceD) (i : Nat) : Bool := match l[i]? with
 | none => true
 | some q => fm t q && fk t x q && (decide (i = 0) || match l[i - 1]? with | none => true | some a => nd a q)
def dx (t : aj) (x : av) (l : List PlaceD) (n : Nat) : Bool := (List.range n).all (jn t x l)
theorem gz (t : aj) (x : av) (l : List PlaceD) (n : Nat) : dx t x l (n + 1) = (dx t x l n && jn t x l n) := by
 unfold dx
 rw [List.range_succ, List.all_append]
 simp
def ie (t : aj) (x : av) (r : Int) (l : List PlaceD) : Bool := (decide (0 ≤ r) || decide (l = [])) && dx t x l l.length
def gn (r : bw) : Bool := inB r.id 0 9999 && inB r.miss 0 90
def ju (p : ai) : Bool := decide (p.firsts.length ≤ 3) && decide (p.seconds.length ≤ 3) && (p.firsts ++ p.seconds).all gn && decide ((p.firsts ++ p.seconds).map (·.id)).Nodup
def mb (p : ai) (last : Int) (x : av) : Bool := decide (last < x.fr) && decide (x.fr ≤ x.to) && decide (x.to < (mu p.text : Int)) && inB x.fst (-1) ((p.firsts.length : Int) - 1) && ie p.text x x.fst x.found && inB x.snd (-1) ((p.seconds.length : Int) - 1) && ie p.text x x.snd x.well
/-- the last line ahead of a page -/
def il (l : List av) : Nat → Int
 | 0 => -1
 | i + 1 => match l[i]? with | some x => x.to | none => -1
def th (p : ai) (i : Nat) : Bool := match p.pages[i]? with
 | none => true
 | some x => mb p (il p.pages i) x
def qa (p : ai) (n : Nat) : Bool := (List.range n).all (th p)
theorem ucs (p : ai) (n : Nat) : qa p (n + 1) = (qa p n && th p n) := by
 unfold qa
 rw [List.range_succ, List.all_append]
 simp
def f8 (p : ai) : Bool := ju p && decide (p.pages.length ≤ 8) && qa p p.pages.length
def c7 (p : ai) : Int := bif dq p.text then (bif f8 p then 0 else 90) else 10
/-! ### What is found on a page -/
def eb (t : aj) (x : av) : List PlaceD := (dn t).filter fun q => decide (q ∈ x.found) || decide (q ∈ x.well)
def er (t : aj) (x : av) : List PlaceD := (dn t).filter fun q => decide (q ∈ x.found) && decide (q ∈ x.well)
def fj (t : aj) (x : av) : Nat := ((dn t).filter (fk t x)).length
/-! ### Bounds of readers -/
def em (b : Bool) (x : av) : Int := bif b then x.snd else x.fst
def dm (b : Bool) (x : av) : List PlaceD := bif b then x.well else x.found
def d7 (p : ai) (b : Bool) : List bw := bif b then p.seconds else p.firsts
def ct (l : List av) (g : av → Nat) : Nat := (l.map g).sum
theorem mp {l : List av} {k : Nat} {x : av} {g : av → Nat} (h : l[k]? = some x) : ct (l.take (k + 1)) g = ct (l.take k) g + g x := by
 unfold ct
 rw [List.take_add_one, h]
 simp
def dl (b : Bool) (i : Int) (x : av) : Nat := bif decide (em b x = i) then (dm b x).length else 0
def dz (t : aj) (b : Bool) (i : Int) (x : av) : Nat := bif decide (em b x = i) then (eb t x).length else 0
def l6 (p : ai) (b : Bool) (i : Nat) : Int := match (d7 p b)[i]? with | some r => r.miss | none => 0
def ml (p : ai) (b : Bool) (i : Nat) : Int := 100 * (ct p.pages (dl b i) : Int) / (100 - l6 p b i)
def jv (p : ai) (b : Bool) (i : Nat) : Int := ml p b i - (ct p.pages (dz p.text b i) : Int)
/-! ### What may remain -/
def ax (p : ai) : Nat := p.firsts.length + p.seconds.length
def ck (p : ai) (i : Nat) : Int := bif decide (i < p.firsts.length) then jv p false i else jv p true (i - p.firsts.length)
def uk (t : aj) (x : av) : Int := (fj t x : Int) - ((eb t x).length : Int)
def gw (p : ai) : Bool := (List.range (ax p)).all fun i => decide (0 ≤ ck p i)
def bu (p : ai) : Net where
 nF := p.firsts.length
 nr := ax p
 np := p.pages.length
 fr := fun j => match p.pages[j]? with | some x => (bif decide (0 ≤ x.fst) then some x.fst.toNat else none) | none => none
 sc := fun j => match p.pages[j]? with | some x => (bif decide (0 ≤ x.snd) then some (p.firsts.length + x.snd.toNat) else none) | none => none
end Go.AB
namespace Go.AB
/-- so much on a page is the most of what loses nothing -/
structure Net.Pick (N : Net) (R C : Nat → Int) (j : Nat) (n : Int) : Prop where
 nn : 0 ≤ n
 le : n ≤ N.alone R C j
 ok : N.most R C ≤ n + N.most (N.lessR R j n) (ep C j)
 max : ∀ m, n < m → m ≤ N.alone R C j → ¬ N.most R C ≤ m + N.most (N.lessR R j m) (ep C j)
section
variable {N : Net} {R C : Nat → Int}
theorem Net.Pick.uniq {j : Nat} {n m : Int} (h : N.Pick R C j n) (k : N.Pick R C j m) : n = m := by
 rcases Int.lt_trichotomy n m with q | q | q
 ·exact absurd k.ok (h.max m q k.le)
 ·exact q
 ·exact absurd h.ok (k.max n q h.le)
theorem Net.pick_ex (hN : N.Ok) (hR : ∀ i, i < N.nr → 0 ≤ R i) (hC : ∀ j, j < N.np → 0 ≤ C j) {j : Nat} (hj : j < N.np) : ∃ n, N.Pick R C j n := by
 obtain ⟨n, h1, h2, h3⟩ := Net.greedy hN hR hC hj
 generalize hd : (N.alone R C j - n).toNat = d
 induction d using Nat.strongRecOn generalizing n with
 | _ d ih =>
  by_cases hmax : ∀ m, n < m → m ≤ N.alone R C j → ¬ N.most R C ≤ m + N.most (N.lessR R j m) (ep C j)
  ·exact ⟨n, h1, h2, h3, hmax⟩
  ·obtain ⟨m, hm⟩ := Classical.not_forall.1 hmax
   obtain ⟨q1, hm⟩ := Classical.not_imp.1 hm
   obtain ⟨q2, hm⟩ := Classical.not_imp.1 hm
   exact ih _ (by omega) m (by omega) q2 (Classical.not_not.1 hm) rfl
open Classical in
noncomputable def Net.pick (N : Net) (R C : Nat → Int) (j : Nat) : Int := if h : ∃ n, N.Pick R C j n then h.choose else 0
theorem Net.pick_spec {j : Nat} (h : ∃ n, N.Pick R C j n) : N.Pick R C j (N.pick R C j) := by
 unfold Net.pick
 rw [dif_pos h]
 exact h.choose_spec
/-- what may remain ahead of a page, by the worst truth -/
noncomputable def Net.room (N : Net) (R C : Nat → Int) : Nat → (Nat → Int) × (Nat → Int)
 | 0 => (R, C)
 | i + 1 => (N.lessR (N.room R C i).1 i (N.pick (N.room R C i).1 (N.room R C i).2 i), ep (N.room R C i).2 i)
/-- the worst truth -/
noncomputable def Net.worst (N : Net) (R C : Nat → Int) (i : Nat) : Int := N.pick (N.room R C i).1 (N.room R C i).2 i
theorem Net.room_succ (i : Nat) : N.room R C (i + 1) = (N.lessR (N.room R C i).1 i (N.worst R C i), ep (N.room R C i).2 i) := rfl
structure Net.RoomOk (N : Net) (R C : Nat → Int) (i : Nat) : Prop where
 rnn : ∀ r, r < N.nr → 0 ≤ (N.room R C i).1 r
 cnn : ∀ j, j < N.np → 0 ≤ (N.room R C i).2 j
 all : N.most (N.room R C i).1 (N.room R C i).2 = N.most R C - sm i (N.worst R C)
 caps : ∀ j, (N.room R C i).2 j = bif decide (j < i) then 0 else C j
 rds : ∀ r, (N.room R C i).1 r = R r - sm i (fun j => bif N.by j r then N.worst R C j else 0)
theorem Net.room_ok (hN : N.Ok) (hR : ∀ i, i < N.nr → 0 ≤ R i) (hC : ∀ j, j < N.np → 0 ≤ C j) : ∀ i, i ≤ N.np → N.RoomOk R C i
 | 0, _ => ⟨hR, hC, by simp [Net.room, sm], fun j => by simp [Net.room], fun r => by simp [Net.room, sm]⟩
 | i + 1, hi => by
  have h := Net.room_ok hN hR hC i (by omega)
  have hp : N.Pick (N.room R C i).1 (N.room R C i).2 i (N.worst R C i) := Net.pick_spec (Net.pick_ex hN h.rnn h.cnn (by omega))
  have hal := Net.le_alone.1 hp.le
  have hle := Net.less_le (R := (N.room R C i).1) (C := (N.room R C i).2) hN (show i < N.np by omega) hp.nn hal.1
  have hok := hp.ok
  refine ⟨fun r hr => ?_, fun j hj => ?_, ?_, fun j => ?_, fun r => ?_⟩
  ·rw [Net.room_succ]
   show 0 ≤ N.lessR _ i _ r
   unfold Net.lessR
   cases hb : N.by i r
   ·exact h.rnn r hr
   ·have := hal.2 r hb
    simp only [cond_true]; omega
  ·rw [Net.room_succ]
   show 0 ≤ ep _ i j
   unfold ep
   cases decide (j = i)
   ·exact h.cnn j hj
   ·exact Int.le_refl _
  ·rw [Net.room_succ]
   have := h.all
   simp only [sm]
   show N.most (N.lessR _ i _) (ep _ i) = _
   omega
  ·rw [Net.room_succ]
   show ep _ i j = _
   unfold ep
   rw [h.caps j]
   by_cases e : j = i
   ·subst e; simp
   ·rw [decide_eq_false e, cond_false, show decide (j < i + 1) = decide (j < i) by rw [decide_eq_decide]; omega]
  ·rw [Net.room_succ]
   show N.lessR _ i _ r = _
   unfold Net.lessR
   rw [h.rds r]
   simp only [sm]
   cases N.by i r <;> simp <;> omega
theorem Net.worst_pick (hN : N.Ok) (hR : ∀ i, i < N.nr → 0 ≤ R i) (hC : ∀ j, j < N.np → 0 ≤ C j) {i : Nat} (hi : i < N.np) : N.Pick (N.room R C i).1 (N.room R C i).2 i (N.worst R C i) := by
 have h := Net.room_ok hN hR hC i (by omega)
 exact Net.pick_spec (Net.pick_ex hN h.rnn h.cnn hi)
end
end Go.AB
namespace Go.AB
open Go Go.RowKit
open Go.AB.Enc (cells)
open Go.PB (az aj PlaceD bj bl bk bw av ai c6 cv)
theorem sumL_sm (g : av → Nat) : ∀ l : List av, ((ct l g : Nat) : Int) = sm l.length (fun j => match l[j]? with | some x => (g x : Int) | none => 0) := by
 intro l
 have key : ∀ k, k ≤ l.length → ((ct (l.take k) g : Nat) : Int) = sm k (fun j => match l[j]? with | some x => (g x : Int) | none => 0) := by
  intro k
  induction k with
  | zero => intro _; rfl
  | succ k ih =>
   intro hk
   have hx : l[k]? = some l[k] := List.getElem?_eq_getElem (by omega)
   rw [mp hx]
   simp only [sm, hx]
   have := ih (by omega)
   omega
 have := key l.length (Nat.le_refl _)
 rwa [List.take_length] at this
/-! ### What valid proofs are -/
structure ey (p : ai) : Prop where
 text : dq p.text = true
 nf : p.firsts.length ≤ 3
 ns : p.seconds.length ≤ 3
 np : p.pages.length ≤ 8
 rd : ∀ r ∈ p.firsts ++ p.seconds, gn r = true
 page : ∀ (j : Nat) (x : av), p.pages[j]? = some x → mb p (il p.pages j) x = true
theorem m7 {p : ai} (h : c7 p = 0) : ey p ∧ f8 p = true := by
 unfold c7 at h
 cases ht : dq p.text
 ·rw [ht] at h; simp at h
 ·cases hp : f8 p
  ·rw [ht, hp] at h; simp at h
  ·refine ⟨?_, rfl⟩
   unfold f8 ju at hp
   simp only [Bool.and_eq_true, decide_eq_true_eq] at hp
   obtain ⟨⟨⟨⟨⟨h1, h2⟩, h3⟩, _⟩, h5⟩, h6⟩ := hp
   refine ⟨ht, h1, h2, h5, fun r hr => List.all_eq_true.1 h3 r hr, fun j x hx => ?_⟩
   have hj := (List.getElem?_eq_some_iff.1 hx).1
   have := List.all_eq_true.1 h6 j (List.mem_range.2 hj)
   unfold th at this
   rw [hx] at this
   exact this
structure oe (p : ai) (last : Int) (x : av) : Prop where
 fr : last < x.fr
 to : x.fr ≤ x.to
 lt : x.to < (mu p.text : Int)
 fst : -1 ≤ x.fst ∧ x.fst ≤ (p.firsts.length : Int) - 1
 snd : -1 ≤ x.snd ∧ x.snd ≤ (p.seconds.length : Int) - 1
 found : ie p.text x x.fst x.found = true
 well : ie p.text x x.snd x.well = true
theorem pageB_true {p : ai} {last : Int} {x : av} : mb p last x = true ↔ oe p last x := by
 unfold mb
 simp only [Bool.and_eq_true, decide_eq_true_eq, inB_true]
 exact ⟨fun ⟨⟨⟨⟨⟨⟨h1, h2⟩, h3⟩, h4⟩, h5⟩, h6⟩, h7⟩ => ⟨h1, h2, h3, h4, h6, h5, h7⟩, fun h => ⟨⟨⟨⟨⟨⟨h.fr, h.to⟩, h.lt⟩, h.fst⟩, h.found⟩, h.snd⟩, h.well⟩⟩
theorem mz {t : aj} {x : av} {r : Int} {l : List PlaceD} (h : ie t x r l = true) {q : PlaceD} (hq : q ∈ l) : fm t q = true ∧ fk t x q = true := by
 unfold ie at h
 rw [Bool.and_eq_true] at h
 obtain ⟨i, hi⟩ := List.getElem?_of_mem hq
 have := List.all_eq_true.1 h.2 i (List.mem_range.2 (List.getElem?_eq_some_iff.1 hi).1)
 unfold jn at this
 rw [hi] at this
 simp only [Bool.and_eq_true] at this
 exact this.1
theorem ul9 {t : aj} {x : av} {r : Int} {l : List PlaceD} (h : ie t x r l = true) {i : Nat} {a q : PlaceD} (ha : l[i]? = some a) (hq : l[i + 1]? = some q) : fb (dh a) (dh q) < 0 := by
 unfold ie at h
 rw [Bool.and_eq_true] at h
 have := List.all_eq_true.1 h.2 (i + 1) (List.mem_range.2 (List.getElem?_eq_some_iff.1 hq).1)
 unfold jn at this
 rw [hq, Nat.add_sub_cancel, ha] at this
 have h9 : (fm t q = true ∧ fk t x q = true) ∧ fb (dh a) (dh q) < 0 := by simpa [nd] using this
 exact h9.2
theorem ufn {a b c : PlaceD} (h : fb (dh a) (dh b) < 0) (k : fb (dh b) (dh c) < 0) : fb (dh a) (dh c) < 0 := by
 rw [n4 (by rfl)] at h k ⊢
 exact rj h k
theorem uat (a : PlaceD) : ¬ fb (dh a) (dh a) < 0 := by
 rw [n4 (by rfl)]
 exact pk _
theorem uhj {l : List PlaceD} (h : ∀ (i : Nat) (a q : PlaceD), l[i]? = some a → l[i + 1]? = some q → fb (dh a) (dh q) < 0) : l.Pairwise fun a b => fb (dh a) (dh b) < 0 := by
 rw [List.pairwise_iff_getElem]
 intro i j hi hj hij
 have key : ∀ d (hd : i + 1 + d < l.length), fb (dh l[i]) (dh l[i + 1 + d]) < 0 := by
  intro d
  induction d with
  | zero => intro hd; exact h i _ _ (List.getElem?_eq_getElem hi) (List.getElem?_eq_getElem hd)
  | succ d ih =>
   intro hd
   exact ufn (ih (by omega)) (h (i + 1 + d) _ _ (List.getElem?_eq_getElem (by omega)) (List.getElem?_eq_getElem hd))
 have := key (j - (i + 1)) (by omega)
 simpa [show i + 1 + (j - (i + 1)) = j by omega] using this
theorem xe {t : aj} {x : av} {r : Int} {l : List PlaceD} (h : ie t x r l = true) : l.Pairwise fun a b => fb (dh a) (dh b) < 0 := uhj fun _ _ _ ha hq => ul9 h ha hq
/-- lists in order, with the same places -/
theorem vd : ∀ {l m : List PlaceD}, l.Pairwise (fun a b => fb (dh a) (dh b) < 0) → m.Pairwise (fun a b => fb (dh a) (dh b) < 0) → (∀ q, q ∈ l ↔ q ∈ m) → l = m
 | [], [], _, _, _ => rfl
 | [], b :: m, _, _, h => by have := (h b).2 (List.mem_cons_self ..); cases this
 | a :: l, [], _, _, h => by have := (h a).1 (List.mem_cons_self ..); cases this
 | a :: l, b :: m, h1, h2, h => by
  rw [List.pairwise_cons] at h1 h2
  have hab : a = b := by
   have p1 := (h a).1 (List.mem_cons_self ..)
   have p2 := (h b).2 (List.mem_cons_self ..)
   rw [List.mem_cons] at p1 p2
   rcases p1 with rfl | p1
   ·rfl
   ·rcases p2 with rfl | p2
    ·rfl
    ·exact absurd (ufn (h1.1 b p2) (h2.1 a p1)) (uat a)
  subst hab
  rw [vd h1.2 h2.2 fun q => ?_]
  constructor
  ·intro hq
   have := (h q).1 (List.mem_cons_of_mem _ hq)
   rw [List.mem_cons] at this
   rcases this with rfl | this
   ·exact absurd (h1.1 q hq) (uat q)
   ·exact this
  ·intro hq
   have := (h q).2 (List.mem_cons_of_mem _ hq)
   rw [List.mem_cons] at this
   rcases this with rfl | this
   ·exact absurd (h2.1 q hq) (uat q)
   ·exact this
/-! ### Pages between readers -/
def tg (p : ai) (j : Nat) (g : av → Int) : Int := match p.pages[j]? with | some x => g x | none => 0
theorem ucu {p : ai} {j : Nat} {x : av} (h : p.pages[j]? = some x) (g : av → Int) : tg p j g = g x := by unfold tg; rw [h]
def dg (p : ai) (j : Nat) : Int := tg p j (uk p.text)
theorem zh {p : ai} (h : ey p) : (bu p).Ok := by
 refine ⟨Nat.le_add_right _ _, fun j i hi => ?_, fun j i hi => ?_⟩
 ·simp only [bu] at hi ⊢
  cases hx : p.pages[j]? with
  | none => rw [hx] at hi; cases hi
  | some x =>
   rw [hx] at hi
   have hp := (pageB_true.1 (h.page j x hx)).fst
   dsimp only at hi
   by_cases q : 0 ≤ x.fst
   ·rw [decide_eq_true q, cond_true, Option.some.injEq] at hi
    omega
   ·rw [decide_eq_false q] at hi; cases hi
 ·simp only [bu, ax] at hi ⊢
  cases hx : p.pages[j]? with
  | none => rw [hx] at hi; cases hi
  | some x =>
   rw [hx] at hi
   have hp := (pageB_true.1 (h.page j x hx)).snd
   dsimp only at hi
   by_cases q : 0 ≤ x.snd
   ·rw [decide_eq_true q, cond_true, Option.some.injEq] at hi
    omega
   ·rw [decide_eq_false q] at hi; cases hi
/-- the readers of a page, as the program lists them -/
def c5 (p : ai) (x : av) : List Int := (bif decide (0 ≤ x.fst) then [x.fst] else []) ++ (bif decide (0 ≤ x.snd) then [(p.firsts.length : Int) + x.snd] else [])
theorem uea {p : ai} {j : Nat} {x : av} (hx : p.pages[j]? = some x) (S : Nat → Bool) : (bu p).hit S j = (c5 p x).any fun k => S k.toNat := by
 simp only [Net.hit, bu, hx, c5, List.any_append]
 congr 1
 ·cases decide (0 ≤ x.fst) <;> simp [ob]
 ·by_cases q : 0 ≤ x.snd
  ·simp [q, ob, show ((p.firsts.length : Int) + x.snd).toNat = p.firsts.length + x.snd.toNat by omega]
  ·simp [q, ob]
theorem ul1 {p : ai} {last : Int} {x : av} (h : oe p last x) : (eb p.text x).length ≤ fj p.text x := by
 unfold eb fj
 rw [← List.countP_eq_length_filter, ← List.countP_eq_length_filter]
 refine List.countP_mono_left fun q _ hq => ?_
 rw [Bool.or_eq_true, decide_eq_true_eq, decide_eq_true_eq] at hq
 rcases hq with hq | hq
 ·exact (mz h.found hq).2
 ·exact (mz h.well hq).2
theorem uap {p : ai} (h : ey p) (j : Nat) : 0 ≤ dg p j := by
 unfold dg tg
 cases hx : p.pages[j]? with
 | none => exact Int.le_refl _
 | some x =>
  have := ul1 (pageB_true.1 (h.page j x hx))
  show 0 ≤ uk p.text x
  unfold uk
  omega
end Go.AB
namespace Go.AB
open Go Go.RowKit
open Go.AB.Enc (cells)
/-- the numbers of a set -/
def wo (n s : Nat) : List Nat := (List.range n).filter fun i => s.testBit i
def ef (n s : Nat) : List Int := (wo n s).map fun i : Nat => (i : Int)
theorem wr (n s : Nat) : ef (n + 1) s = ef n s ++ (bif s.testBit n then [(n : Int)] else []) := by
 unfold ef wo
 rw [List.range_succ, List.filter_append, List.map_append]
 cases h : s.testBit n <;> simp [h]
theorem rh (n s : Nat) : (ef n s).length ≤ n := by
 unfold ef wo
 rw [List.length_map]
 have := List.length_filter_le (fun i => s.testBit i) (List.range n)
 rwa [List.length_range] at this
theorem membersL_mem {n s : Nat} {x : Int} : x ∈ ef n s ↔ ∃ i : Nat, x = (i : Int) ∧ i < n ∧ s.testBit i = true := by
 unfold ef wo
 simp only [List.mem_map, List.mem_filter, List.mem_range]
 exact ⟨fun ⟨i, ⟨h1, h2⟩, h3⟩ => ⟨i, h3.symm, h1, h2⟩, fun ⟨i, h3, h1, h2⟩ => ⟨i, ⟨h1, h2⟩, h3.symm⟩⟩
/-- the order of lists: shorter ones first, then by their numbers -/
def ig (a b : List Int) : Bool := decide (a.length < b.length) || (decide (a.length = b.length) && decide (fb a b < 0))
theorem uau {a b : List Int} : ig a b = true ↔ a.length < b.length ∨ (a.length = b.length ∧ ltW a b) := by
 unfold ig
 rw [Bool.or_eq_true, Bool.and_eq_true, decide_eq_true_eq, decide_eq_true_eq, decide_eq_true_eq]
 constructor
 ·rintro (h | ⟨h1, h2⟩)
  ·exact .inl h
  ·exact .inr ⟨h1, (n4 h1).1 h2⟩
 ·rintro (h | ⟨h1, h2⟩)
  ·exact .inl h
  ·exact .inr ⟨h1, (n4 h1).2 h2⟩
theorem uav (a : List Int) : ig a a = false := by
 rw [← Bool.not_eq_true, uau]
 rintro (h | ⟨_, h⟩)
 ·omega
 ·exact pk a h
theorem une {a b c : List Int} (h : ig a b = true) (k : ig b c = true) : ig a c = true := by
 rw [uau] at *
 rcases h with h | ⟨h1, h2⟩
 ·rcases k with k | ⟨k1, _⟩
  ·exact .inl (by omega)
  ·exact .inl (by omega)
 ·rcases k with k | ⟨k1, k2⟩
  ·exact .inl (by omega)
  ·exact .inr ⟨by omega, rj h2 k2⟩
/-- what is found among the first sets -/
def d9 (so : Nat → Bool) (n : Nat) : Nat → Option (List Int)
 | 0 => none
 | k + 1 => match d9 so n k with
  | none => bif so k then some (ef n k) else none
  | some b => bif so k && ig (ef n k) b then some (ef n k) else some b
def pv (so : Nat → Bool) (n : Nat) : List Int := (d9 so n (2 ^ n)).getD []
structure un1 (so : Nat → Bool) (n k : Nat) (b : List Int) : Prop where
 get : ∃ s, s < k ∧ so s = true ∧ b = ef n s
 min : ∀ s, s < k → so s = true → ig (ef n s) b = false
theorem xm (so : Nat → Bool) (n : Nat) : ∀ k, (d9 so n k = none ∧ ∀ s, s < k → so s = false) ∨ ∃ b, d9 so n k = some b ∧ un1 so n k b
 | 0 => .inl ⟨rfl, fun s h => absurd h (Nat.not_lt_zero _)⟩
 | k + 1 => by
  rcases xm so n k with ⟨h1, h2⟩ | ⟨b, h1, h2⟩
  ·simp only [d9, h1]
   cases hs : so k
   ·exact .inl ⟨rfl, fun s h => by
     by_cases e : s = k
     ·subst e; exact hs
     ·exact h2 s (by omega)⟩
   ·exact .inr ⟨_, rfl, ⟨k, by omega, hs, rfl⟩, fun s h hso => by
     by_cases e : s = k
     ·subst e; exact uav _
     ·rw [h2 s (by omega)] at hso; cases hso⟩
  ·simp only [d9, h1]
   right
   cases hs : so k && ig (ef n k) b
   ·refine ⟨b, rfl, ?_, fun s h hso => ?_⟩
    ·obtain ⟨s, q1, q2, q3⟩ := h2.get
     exact ⟨s, by omega, q2, q3⟩
    ·by_cases e : s = k
     ·subst e
      rw [hso, Bool.true_and] at hs
      exact hs
     ·exact h2.min s (by omega) hso
   ·rw [Bool.and_eq_true] at hs
    refine ⟨_, rfl, ⟨k, by omega, hs.1, rfl⟩, fun s h hso => ?_⟩
    by_cases e : s = k
    ·subst e; exact uav _
    ·rw [← Bool.not_eq_true]
     intro hb
     have := une hb hs.2
     rw [h2.min s (by omega) hso] at this
     cases this
theorem uas (so : Nat → Bool) (n : Nat) : (pv so n).length ≤ n := by
 unfold pv
 rcases xm so n (2 ^ n) with ⟨h, _⟩ | ⟨b, h, k⟩
 ·rw [h]; exact Nat.zero_le _
 ·rw [h]
  obtain ⟨s, _, _, rfl⟩ := k.get
  exact rh n s
theorem ufl {so : Nat → Bool} {n k : Nat} (h : d9 so n k = none) : d9 so n (k + 1) = bif so k then some (ef n k) else none := by simp only [d9, h]
theorem uar {so : Nat → Bool} {n k : Nat} {b : List Int} (h : d9 so n k = some b) : d9 so n (k + 1) = bif so k && ig (ef n k) b then some (ef n k) else some b := by simp only [d9, h]
/-- the least, as it is looked for: with the first one counted again, or not -/
theorem ukz (g : Nat → Int) : jl g 1 = g 0 := by simp [jl]
/-! ### Lists of numbers that are looked up -/
def bf (n : Nat) (R : Nat → Int) : List Int := (List.range n).map R
theorem gk (n : Nat) (R : Nat → Int) : (bf n R).length = n := by simp [bf]
theorem jq {n i : Nat} (R : Nat → Int) (h : i < n) : (bf n R)[i]? = some (R i) := by simp [bf, h]
theorem qt (n : Nat) (R : Nat → Int) : bf (n + 1) R = bf n R ++ [R n] := by
 unfold bf
 rw [List.range_succ, List.map_append]; rfl
theorem sq {n i : Nat} (R : Nat → Int) (v : Int) (h : i < n) : (bf n R).set i v = bf n fun k => bif decide (k = i) then v else R k := by
 apply List.ext_getElem?
 intro k
 rw [List.getElem?_set, gk]
 by_cases hk : k < n
 ·rw [jq (fun k => bif decide (k = i) then v else R k) hk, jq R hk]
  by_cases e : i = k
  ·subst e; rw [if_pos rfl, if_pos h, decide_eq_true rfl]; rfl
  ·rw [if_neg e, decide_eq_false (Ne.symm e)]; rfl
 ·rw [List.getElem?_eq_none (by rw [gk]; omega)]
  rw [if_neg (by omega), List.getElem?_eq_none (by rw [gk]; omega)]
end Go.AB
namespace Go.AB
open Go Go.RowKit
open Go.AB.Enc (cells)
open Go.PB (az aj PlaceD bj bl bk bw av ai c6 cv)
/-! ### All places are in order -/
theorem unk (t : aj) : (dn t).Pairwise fun a b => fb (dh a) (dh b) < 0 := by
 unfold dn
 rw [List.pairwise_map, List.pairwise_iff_getElem]
 intro i j hi hj hij
 have h1 := List.getElem?_eq_getElem hi
 have h2 := List.getElem?_eq_getElem hj
 have h := ukj (uf9 h1).1 (uf9 h2).1
 rw [ze h1 rfl, ze h2 rfl] at h
 rw [n4 (by rfl), ← h]
 omega
theorem allQ_mem {t : aj} {q : PlaceD} : q ∈ dn t ↔ fm t q = true := allP_mem
theorem xf {t : aj} (f : PlaceD → Bool) : ((dn t).filter f).Pairwise fun a b => fb (dh a) (dh b) < 0 := (unk t).filter _
/-- places in order, of a text, are those of all places that are among them -/
theorem uhq {t : aj} {l : List PlaceD} (h : l.Pairwise fun a b => fb (dh a) (dh b) < 0) (hp : ∀ q ∈ l, fm t q = true) : l = (dn t).filter fun q => decide (q ∈ l) :=
 vd h (xf _) fun q => by
  rw [List.mem_filter, decide_eq_true_eq, allQ_mem]
  exact ⟨fun h => ⟨hp q h, h⟩, fun h => h.2⟩
theorem uma {t : aj} {x : av} {r : Int} {l : List PlaceD} (h : ie t x r l = true) : l = (dn t).filter fun q => decide (q ∈ l) := uhq (xe h) fun q hq => (mz h hq).1
theorem n3 {t : aj} {x : av} {r : Int} {l : List PlaceD} (h : ie t x r l = true) : l.length ≤ (dn t).length := by
 rw [uma h]
 exact List.length_filter_le _ _
theorem rq (t : aj) (x : av) : (eb t x).length ≤ (dn t).length := List.length_filter_le _ _
theorem una (t : aj) (x : av) : (er t x).length ≤ (dn t).length := List.length_filter_le _ _
theorem uw (t : aj) (x : av) : fj t x ≤ (dn t).length := List.length_filter_le _ _
/-! ### How great numbers are -/
theorem yh {g : av → Nat} {m : Nat} : ∀ {l : List av}, (∀ x ∈ l, g x ≤ m) → ct l g ≤ l.length * m
 | [], _ => by simp [ct]
 | x :: l, h => by
  have h1 := yh (l := l) fun y hy => h y (List.mem_cons_of_mem _ hy)
  have h2 := h x (List.mem_cons_self ..)
  simp only [ct, List.map_cons, List.sum_cons, List.length_cons] at h1 ⊢
  rw [Nat.succ_mul]
  omega
theorem y9 {p : ai} (h : ey p) (b : Bool) (i : Int) : ct p.pages (dl b i) ≤ 4800 := by
 have hq := n8 h.text
 have h1 := yh (l := p.pages) (g := dl b i) (m := 600) fun x hx => by
  obtain ⟨j, hj⟩ := List.getElem?_of_mem hx
  have hp := pageB_true.1 (h.page j x hj)
  unfold dl
  cases decide (em b x = i)
  ·exact Nat.zero_le _
  ·cases b
   ·have := n3 hp.found
    show x.found.length ≤ 600
    omega
   ·have := n3 hp.well
    show x.well.length ≤ 600
    omega
 have := h.np
 have h2 : p.pages.length * 600 ≤ 8 * 600 := Nat.mul_le_mul_right _ this
 omega
theorem yy {p : ai} (h : ey p) (b : Bool) (i : Int) : ct p.pages (dz p.text b i) ≤ 4800 := by
 have hq := n8 h.text
 have h1 := yh (l := p.pages) (g := dz p.text b i) (m := 600) fun x hx => by
  have := rq p.text x
  unfold dz
  cases decide (em b x = i)
  ·exact Nat.zero_le _
  ·show (eb p.text x).length ≤ 600
   omega
 have := h.np
 have h2 : p.pages.length * 600 ≤ 8 * 600 := Nat.mul_le_mul_right _ this
 omega
theorem zl {p : ai} (h : ey p) (b : Bool) (i : Nat) : 0 ≤ l6 p b i ∧ l6 p b i ≤ 90 := by
 unfold l6
 cases hr : (d7 p b)[i]? with
 | none => exact ⟨Int.le_refl _, by show (0 : Int) ≤ 90; omega⟩
 | some r =>
  have hm := List.mem_of_getElem? hr
  have : gn r = true := h.rd r (by
   rw [List.mem_append]
   cases b
   ·exact .inl hm
   ·exact .inr hm)
  unfold gn at this
  rw [Bool.and_eq_true, inB_true, inB_true] at this
  exact this.2
theorem xl {p : ai} (h : ey p) (b : Bool) (i : Nat) : 0 ≤ ml p b i ∧ ml p b i ≤ 48000 := by
 have h1 := y9 h b i
 have h2 := zl h b i
 unfold ml
 have h3 : (0 : Int) < 100 - l6 p b i := by omega
 refine ⟨Int.ediv_nonneg (by omega) (by omega), ?_⟩
 have h4 : 100 * ((ct p.pages (dl b i) : Nat) : Int) / (100 - l6 p b i) ≤ 100 * ((ct p.pages (dl b i) : Nat) : Int) / 10 := by
  refine Int.le_ediv_of_mul_le (by omega) ?_
  have h5 := Int.ediv_mul_le (100 * ((ct p.pages (dl b i) : Nat) : Int)) (show (100 - l6 p b i) ≠ 0 by omega)
  have h6 : 0 ≤ 100 * ((ct p.pages (dl b i) : Nat) : Int) / (100 - l6 p b i) := Int.ediv_nonneg (by omega) (by omega)
  have h7 : 100 * ((ct p.pages (dl b i) : Nat) : Int) / (100 - l6 p b i) * 10 ≤ 100 * ((ct p.pages (dl b i) : Nat) : Int) / (100 - l6 p b i) * (100 - l6 p b i) := Int.mul_le_mul_of_nonneg_left (by omega) h6
  omega
 omega
theorem ud2 {p : ai} (h : ey p) (b : Bool) (i : Nat) : -4800 ≤ jv p b i ∧ jv p b i ≤ 48000 := by
 have h1 := xl h b i
 have h2 := yy h b i
 unfold jv
 omega
theorem uli {p : ai} (h : ey p) (i : Nat) : -4800 ≤ ck p i ∧ ck p i ≤ 48000 := by
 unfold ck
 cases decide (i < p.firsts.length)
 ·exact ud2 h _ _
 ·exact ud2 h _ _
theorem um3 {p : ai} (h : ey p) (j : Nat) : 0 ≤ dg p j ∧ dg p j ≤ 600 := by
 refine ⟨uap h j, ?_⟩
 have hq := n8 h.text
 unfold dg tg
 cases hx : p.pages[j]? with
 | none => show (0 : Int) ≤ 600; omega
 | some x =>
  have := uw p.text x
  show uk p.text x ≤ 600
  unfold uk
  omega
/-! ### What is told -/
section
def gi (p : ai) (n : Int) : Int := bif decide (c7 p = 0) then (bif inB n 0 ((p.pages.length : Int) - 1) then 0 else 2) else c7 p
def ec (p : ai) (e : Int) : Int := bif decide (e = 0) then (bif gw p then 0 else 8) else e
def atE {α : Type} (e : Int) (d v : α) : α := bif decide (e = 0) then v else d
def uct (p : ai) (n : Int) : av := (p.pages[n.toNat]?).getD ⟨0, 0, 0, 0, [], []⟩
def ky (p : ai) (n : Int) : cv := atE (ec p (gi p n)) ⟨0, 0⟩ ⟨0, (bu p).alone (ck p) (dg p) n.toNat⟩
def ubg (p : ai) : Int := (bu p).most (ck p) (dg p)
def ku (p : ai) : cv := atE (ec p (c7 p)) ⟨0, 0⟩ ⟨0, ubg p⟩
noncomputable def iz (p : ai) : Nat → Int := (bu p).worst (ck p) (dg p)
noncomputable def kp (p : ai) : List Int := atE (ec p (c7 p)) [] (bf p.pages.length (iz p))
def ii (p : ai) (s : Nat) : Bool := decide ((bu p).f (ck p) (dg p) (fun i => s.testBit i) = ubg p)
def d8 (p : ai) : List Int := pv (ii p) (ax p)
def kr (p : ai) (l : List Int) : List Int := l.filter fun k => decide (k < (p.firsts.length : Int))
def kb (p : ai) (l : List Int) : List Int := (l.filter fun k => !decide (k < (p.firsts.length : Int))).map fun k => k - (p.firsts.length : Int)
end
theorem ubf {p : ai} (h : gw p = true) : ∀ i, i < (bu p).nr → 0 ≤ ck p i := fun i hi => by
 have := List.all_eq_true.1 h i (List.mem_range.2 hi)
 exact of_decide_eq_true this
end Go.AB
namespace Go.AB
open Go Go.RowKit
open Go.AB.Enc (cells)
open Go.PB (az aj PlaceD bj bl bk bw av ai c6 cv)
/-! ### Readers who miss less -/
end Go.AB
namespace Go.AB
open Go Go.RowKit
open Go.AB.Enc (cells)
open Go.PB (az aj PlaceD bj bl bk bw av ai c6 cv)
end Go.AB
namespace Go.AB
open Go Go.RowKit
open Go.AB.Enc (cells)
open Go.PB (az aj PlaceD bj bl bk bw av ai c6 cv)
end Go.AB
namespace Go.AB
open Go Go.RowKit
open Go.AB.Enc (cells)
open Go.PB (az aj PlaceD bj bl bk bw av ai c6 cv)
end Go.AB
namespace Go.AB
open Go Go.RowKit
open Go.AB.Enc (cells)
open Go.PB (az aj PlaceD bj bl bk bw av ai c6 cv)
end Go.AB
namespace Go.AB
open Go Go.RowKit
open Go.AB.Enc (cells)
open Go.PB (az aj PlaceD bj bl bk bw av ai c6 cv)
/-- who is found by one reader alone, so far -/
def gh (F W : List PlaceD) (q : PlaceD) : Bool := decide (q ∈ F) != decide (q ∈ W)
theorem ukf (F : List PlaceD) (q : PlaceD) : gh F [] q = decide (q ∈ F) := by simp [gh]
theorem yj {l : List PlaceD} (h : l.Pairwise fun a b => fb (dh a) (dh b) < 0) : l.Nodup := h.imp fun {a b} hab e => by
 rw [n4 (by rfl)] at hab
 subst e
 exact pk _ hab
theorem uhf {l : List PlaceD} (h : l.Nodup) {k : Nat} {q : PlaceD} (hq : l[k]? = some q) : q ∉ l.take k := fun hm => by
 obtain ⟨i, hi⟩ := List.getElem?_of_mem hm
 have hik : i < k := by have := (List.getElem?_eq_some_iff.1 hi).1; rw [List.length_take] at this; omega
 rw [List.getElem?_take_of_lt hik] at hi
 obtain ⟨h1, h2⟩ := List.getElem?_eq_some_iff.1 hi
 obtain ⟨h3, h4⟩ := List.getElem?_eq_some_iff.1 hq
 have := (List.pairwise_iff_getElem.1 h) i k h1 h3 hik
 exact this (h2.trans h4.symm)
/-- the place at hand is in the map if the first reader found it -/
theorem v6 {F W : List PlaceD} (hW : W.Nodup) {k : Nat} {q : PlaceD} (hq : W[k]? = some q) : gh F (W.take k) q = decide (q ∈ F) := by
 unfold gh
 rw [decide_eq_false (uhf hW hq)]
 cases decide (q ∈ F) <;> rfl
theorem uc7 {F W : List PlaceD} (hW : W.Nodup) {k : Nat} {q : PlaceD} (hq : W[k]? = some q) (x : PlaceD) : gh F (W.take (k + 1)) x = bif decide (x = q) then !decide (q ∈ F) else gh F (W.take k) x := by
 have hm : decide (x ∈ W.take (k + 1)) = (decide (x ∈ W.take k) || decide (x = q)) := by
  rw [List.take_add_one, hq, Option.toList_some, Bool.eq_iff_iff]
  simp
 by_cases e : x = q
 ·subst e
  unfold gh
  rw [hm, decide_eq_true (rfl : x = x), Bool.or_true, cond_true]
  cases decide (x ∈ F) <;> rfl
 ·unfold gh
  rw [hm, decide_eq_false e, Bool.or_false, cond_false]
/-- what both found so far -/
def na (F W : List PlaceD) (k : Nat) : List PlaceD := (W.take k).filter fun q => decide (q ∈ F)
theorem ufg {F W : List PlaceD} {k : Nat} {q : PlaceD} (hq : W[k]? = some q) : na F W (k + 1) = na F W k ++ bif decide (q ∈ F) then [q] else [] := by
 unfold na
 rw [List.take_add_one, hq, Option.toList_some, List.filter_append]
 cases h : decide (q ∈ F) <;> simp [h]
theorem ufh (F W : List PlaceD) (k : Nat) : (na F W k).length ≤ W.length := by
 unfold na
 have := List.length_filter_le (fun q => decide (q ∈ F)) (W.take k)
 rw [List.length_take] at this
 omega
theorem um8 {p : ai} {last : Int} {x : av} (h : oe p last x) : na x.found x.well x.well.length = er p.text x := by
 have hs : (na x.found x.well x.well.length).Pairwise fun a b => fb (dh a) (dh b) < 0 := by
  unfold na
  rw [List.take_length]
  exact (xe h.well).filter _
 refine vd hs (xf _) fun q => ?_
 unfold na
 rw [List.take_length, List.mem_filter, decide_eq_true_eq]
 show _ ↔ q ∈ (dn p.text).filter _
 rw [List.mem_filter, Bool.and_eq_true, decide_eq_true_eq, decide_eq_true_eq, allQ_mem]
 exact ⟨fun ⟨h1, h2⟩ => ⟨(mz h.well h1).1, h2, h1⟩, fun ⟨_, h2, h3⟩ => ⟨h3, h2⟩⟩
/-- both's places, and those of one alone in any order, put in order: all that are found -/
theorem uf2 {p : ai} {last : Int} {x : av} (h : oe p last x) {ks s : List PlaceD} (hn : ks.Nodup) (hk : ∀ q, q ∈ ks ↔ gh x.found x.well q = true) (hp : s.Perm (er p.text x ++ ks)) (hs : s.Pairwise fun a b => ¬ fb (dh b) (dh a) < 0) : s = eb p.text x := by
 have hmb : ∀ q, q ∈ er p.text x ↔ q ∈ x.found ∧ q ∈ x.well := fun q => by
  show q ∈ (dn p.text).filter _ ↔ _
  rw [List.mem_filter, Bool.and_eq_true, decide_eq_true_eq, decide_eq_true_eq, allQ_mem]
  exact ⟨fun h => h.2, fun h2 => ⟨(mz h.well h2.2).1, h2⟩⟩
 have hko : ∀ q, gh x.found x.well q = true ↔ (q ∈ x.found ∧ q ∉ x.well) ∨ (q ∉ x.found ∧ q ∈ x.well) := fun q => by
  unfold gh
  by_cases h1 : q ∈ x.found <;> by_cases h2 : q ∈ x.well <;> simp [h1, h2]
 have hnd : (er p.text x ++ ks).Nodup := by
  rw [List.nodup_append]
  refine ⟨yj (xf _), hn, fun a ha b hb e => ?_⟩
  subst e
  have h1 := (hmb a).1 ha
  rcases (hko a).1 ((hk a).1 hb) with h2 | h2
  ·exact h2.2 h1.2
  ·exact h2.1 h1.1
 have hsn : s.Nodup := hp.nodup_iff.2 hnd
 have hs2 : s.Pairwise fun a b => fb (dh a) (dh b) < 0 := by
  have := List.Pairwise.and hs hsn
  refine this.imp fun {a b} hab => ?_
  rw [n4 (by rfl)] at hab ⊢
  refine Classical.byContradiction fun hno => hab.2 ?_
  exact uls (zr (by rfl) hno hab.1)
 refine vd hs2 (xf _) fun q => ?_
 rw [hp.mem_iff, List.mem_append, hmb, hk, hko]
 show _ ↔ q ∈ (dn p.text).filter _
 rw [List.mem_filter, Bool.or_eq_true, decide_eq_true_eq, decide_eq_true_eq, allQ_mem]
 constructor
 ·rintro (⟨h1, h2⟩ | ⟨h1, _⟩ | ⟨_, h2⟩)
  ·exact ⟨(mz h.found h1).1, .inl h1⟩
  ·exact ⟨(mz h.found h1).1, .inl h1⟩
  ·exact ⟨(mz h.well h2).1, .inr h2⟩
 ·rintro ⟨_, h1 | h1⟩
  ·by_cases h2 : q ∈ x.well
   ·exact .inl ⟨h1, h2⟩
   ·exact .inr (.inl ⟨h1, h2⟩)
  ·by_cases h2 : q ∈ x.found
   ·exact .inl ⟨h2, h1⟩
   ·exact .inr (.inr ⟨h2, h1⟩)
/-! ### The words of a page, line by line -/
def f4 (t : aj) (x : av) (l : List PlaceD) : Nat := (l.filter (fk t x)).length
theorem ua8 (t : aj) (x : av) {k n : Nat} {c : az} {l : List ByteArray} (hn : c.lines[n]? = some l) : f4 t x (gt t k c.lines (n + 1)) = f4 t x (gt t k c.lines n) + bif inB ((fu t k : Int) + (n : Int)) x.fr x.to then l.length else 0 := by
 have e : gt t k c.lines (n + 1) = gt t k c.lines n ++ (j9 k n l).map (·.1) := by
  unfold gt
  rw [uao k hn, List.map_append, List.append_assoc]
 unfold f4
 rw [e, List.filter_append, List.length_append]
 congr 1
 have hall : ∀ q ∈ (j9 k n l).map (·.1), fk t x q = inB ((fu t k : Int) + (n : Int)) x.fr x.to := fun q hq => by
  obtain ⟨y, hy, rfl⟩ := List.mem_map.1 hq
  obtain ⟨w, hw, rfl⟩ := List.mem_mapIdx.1 hy
  show inB (qi t ⟨(k : Int), (n : Int), (w : Int)⟩) x.fr x.to = _
  unfold qi
  dsimp only
  rw [Int.toNat_natCast, Int.add_comm]
 have hlen : ((j9 k n l).map (·.1)).length = l.length := by rw [List.length_map]; unfold j9; rw [List.length_mapIdx]
 cases hb : inB ((fu t k : Int) + (n : Int)) x.fr x.to
 ·rw [List.filter_eq_nil_iff.2 fun q hq => by rw [hall q hq, hb]; simp]; rfl
 ·rw [List.filter_eq_self.2 fun q hq => by rw [hall q hq, hb], hlen]; rfl
theorem ugs (t : aj) (x : av) : f4 t x (dn t) = fj t x := rfl
end Go.AB
namespace Go.AB
open Go Go.RowKit
open Go.AB.Enc (cells)
open Go.PB (az aj PlaceD bj bl bk bw av ai c6 cv)
section
variable {N : Net} {R C : Nat → Int}
end
end Go.AB
namespace Go.PB
structure dj where
 readers : List Int
 pages : List Int
 read : List (List Int)
/-- the reference's: readers and pages alone -/
structure di where
 readers : List Int
 pages : List Int
end Go.PB
namespace Go.AB
open Go Go.RowKit
open Go.AB.Enc (cells)
open Go.PB (az aj PlaceD bj bl bk bw av ai c6 cv dj di)
instance : Enc dj := ⟨fun x => [lst x.readers, lst x.pages, lst x.read], 3, fun _ => rfl, fun m x c h => by
 simp only [List.mem_cons, List.not_mem_nil, or_false] at h
 rcases h with rfl | rfl | rfl
 ·exact cc m _
 ·exact cc m _
 ·exact cc m _, fun x c h => by
 simp only [List.mem_cons, List.not_mem_nil, or_false] at h; rcases h with rfl | rfl | rfl <;> rfl⟩
instance : Enc di := ⟨fun x => [lst x.readers, lst x.pages], 2, fun _ => rfl, fun m x c h => by
 simp only [List.mem_cons, List.not_mem_nil, or_false] at h
 rcases h with rfl | rfl
 ·exact cc m _
 ·exact cc m _, fun x c h => by
 simp only [List.mem_cons, List.not_mem_nil, or_false] at h; rcases h with rfl | rfl <;> rfl⟩
def ij (p : ai) (R C : Nat → Int) : dj := ⟨bf (ax p) R, bf p.pages.length C, p.pages.map (c5 p)⟩
def pd (p : ai) (R C : Nat → Int) : di := ⟨bf (ax p) R, bf p.pages.length C⟩
/-- numbers that no sum of takes too far -/
structure Bd (p : ai) (R C : Nat → Int) : Prop where
 r : ∀ i, -1000000 ≤ R i ∧ R i ≤ 1000000
 c : ∀ j, 0 ≤ C j ∧ C j ≤ 1000000
 nr : ax p ≤ 6
 np : p.pages.length ≤ 8
theorem qm {p : ai} (h : ey p) : Bd p (ck p) (dg p) := ⟨fun i => by have := uli h i; omega, fun j => by have := um3 h j; omega, by have := h.nf; have := h.ns; unfold ax; omega, h.np⟩
/-- what some first readers of a set have -/
def fR (R : Nat → Int) (S : Nat → Bool) (i : Nat) : Int := sm i fun k => bif S k then R k else 0
def fC (p : ai) (C : Nat → Int) (S : Nat → Bool) (j : Nat) : Int := sm j fun k => bif (bu p).hit S k then 0 else C k
theorem uae (p : ai) (R C : Nat → Int) (S : Nat → Bool) : (bu p).f R C S = fR R S (ax p) + fC p C S p.pages.length := rfl
theorem yk {g : Nat → Int} {m : Int} (h : ∀ i, -m ≤ g i ∧ g i ≤ m) : ∀ n : Nat, -(n * m) ≤ sm n g ∧ sm n g ≤ n * m
 | 0 => by simp [sm]
 | n + 1 => by
  have h1 := yk h n
  have h2 := h n
  have e : ((n + 1 : Nat) : Int) * m = (n : Int) * m + m := by rw [Int.natCast_add, Int.add_mul]; simp
  simp only [sm]
  omega
theorem ue {p : ai} {R C : Nat → Int} (h : Bd p R C) (S : Nat → Bool) (i : Nat) (hi : i ≤ ax p) : -6000000 ≤ fR R S i ∧ fR R S i ≤ 6000000 := by
 have := yk (g := fun k => bif S k then R k else 0) (m := 1000000) (fun k => by cases S k; simp; exact h.r k) i
 have := h.nr
 unfold fR
 omega
theorem uag {p : ai} {R C : Nat → Int} (h : Bd p R C) (S : Nat → Bool) (j : Nat) (hj : j ≤ p.pages.length) : 0 ≤ fC p C S j ∧ fC p C S j ≤ 8000000 := by
 have h1 := yk (g := fun k => bif (bu p).hit S k then 0 else C k) (m := 1000000) (fun k => by have := h.c k; cases (bu p).hit S k; simp; omega; simp) j
 have h2 := uhs (n := j) (g := fun k => bif (bu p).hit S k then 0 else C k) fun k _ => by have := h.c k; cases (bu p).hit S k; exact this.1; exact Int.le_refl _
 have := h.np
 unfold fC
 omega
theorem f_bd {p : ai} {R C : Nat → Int} (h : Bd p R C) (S : Nat → Bool) : -6000000 ≤ (bu p).f R C S ∧ (bu p).f R C S ≤ 14000000 := by
 have h1 := ue h S _ (Nat.le_refl _)
 have h2 := uag h S _ (Nat.le_refl _)
 rw [uae]
 omega
theorem zo {g : Nat → Int} {a b : Int} (h : ∀ s, a ≤ g s ∧ g s ≤ b) (k : Nat) : a ≤ jl g k ∧ jl g k ≤ b := by
 obtain ⟨s, _, e⟩ := zm (g := g) k
 rw [e]
 exact h s
theorem wl {p : ai} {R C : Nat → Int} (h : Bd p R C) : -6000000 ≤ (bu p).most R C ∧ (bu p).most R C ≤ 14000000 := zo (fun s => f_bd h _) _
end Go.AB
namespace Go.AB
open Go Go.RowKit
open Go.AB.Enc (cells)
section
variable {P : Program} {o : Oper} {st : St} {K : St → Prop}
end
end Go.AB
namespace Go.AB
open Go Go.RowKit Go.Shelf Go.Proofs
open Go.AB.Enc (cells)
section
variable {P : Program} {o : Oper} {st : St} {K : St → Prop}
theorem uj7 {E : Env} {w : World} {v : Value} {n ver len : Nat} (hp : R E w (.own n ver len) v) : ∃ a cap, v = .slice a len cap ∧ n < E.nx ∧ len ≤ cap ∧ cap ≤ maxLen ∧ ∀ ver' wv val, E.T n = some (ver', wv, val) → ver ≤ ver' ∧ (ver = ver' → ∃ m, len ≤ m ∧ val = .slice a m cap) := by
 cases hp with
 | own h1 h2 h3 h4 => exact ⟨_, _, rfl, h1, h2, h3, h4⟩
/-- append of nothing onto an own slice. -/
theorem ukw {t e : TypeId} {sz bytes n ver m : Nat} [AppT P t e sz bytes] {s x : Operand} {tk : Tok} (ho : o.op = .call { callee := .builtin .append, args := #[s, x], argTypes := #[t, t] }) (hs : evC st s = .own n ver m) (hx : evC st x = .list [] tk) : NStep P o st (.own n ver m) := fun E w a hsim => by
 obtain ⟨ht, i, z, hie, hz, h1, h2, h3⟩ := AppT.spec (P := P) (t := t) (e := e) (sz := sz) (bytes := bytes)
 have hown := hs ▸ hsim.ev s
 obtain ⟨ad, cap, e1, q1, q2, q3, q4⟩ := uj7 hown
 obtain ⟨ao, c, _, _, e3, _⟩ := (hx ▸ hsim.ev x).list_inv
 refine ⟨a.eval s, hown, fun w' => ?_⟩
 have hrun := s9 (P := P) w' t o.type e i ht hie ad ao m cap c q2
 simp only [execOp, ho, resolve, invoke, builtin, Sem.run_bind, Sem.run_pure, Result.andThen_ok, List.map_toArray, List.map_cons, List.map_nil, e1, e3]
 rw [List.length_nil] at *
 rw [hrun]; rfl
/-- append of data onto an own slice. -/
theorem fh {α : Type} [Enc α] {t e : TypeId} {bytes n ver wv : Nat} [AppT P t e (Enc.n α) bytes] {s x : Operand} {tk : Tok} {rows : List (List C)} {xs : List α} {m : Nat} {cs : List C} (ys : List α) (ho : o.op = .call { callee := .builtin .append, args := #[s, x], argTypes := #[t, t] }) (hs : evC st s = .own n ver m) (hG : st.G n = some (.arr ver wv e (Enc.n α) m cs)) (hc : cs = cx xs) (hm : m = xs.length) (hx : evC st x = .list rows tk) (hy : rows = ys.map cells) (hb : (xs.length + ys.length) * bytes ≤ 140737488355328) (hmax : xs.length + ys.length ≤ 9223372036854775807)
  (h : ∀ v : Nat, K (St.put { st with G := ah st.G n (.arr v wv e (Enc.n α) (xs ++ ys).length (cx (xs ++ ys))) } o.dst (.own n v (xs ++ ys).length))) : EStep P o st K := by
 subst hc; subst hm; subst hy
 by_cases h0 : ys = []
 ·subst h0
  have h1 := h ver
  simp only [List.append_nil] at h1
  have h2 : ah st.G n (.arr ver wv e (Enc.n α) xs.length (cx xs)) = st.G := by
   funext k
   simp only [ah]
   split
   ·rename_i e; rw [e, hG]
   ·rfl
  rw [h2] at h1
  exact SStep.e' (NStep.s (D := fun _ => True) (ukw ho hs hx)) h1
 ·refine ump ho hs hG hx (me ys) (by simpa using hb) (by simpa using hmax) (by simpa using h0) ?_
  have h1 := h (ver + 1)
  rw [ueo] at h1
  simpa [cx] using h1
end
end Go.AB
namespace Go.AB
open Go Go.RowKit
open Go.AB.Enc (cells)
open Go.PB (az aj PlaceD bj bl bk bw av ai c6 cv dj di)
/-- the first of some numbers that is not nought -/
def orN (xs : List Int) : Int := (xs.find? fun x => !decide (x = 0)).getD 0
theorem uj9 {xs : List Int} {k : Nat} {x : Int} (hx : xs[k]? = some x) (hne : x ≠ 0) (h : ∀ y ∈ xs.take k, y = 0) : orN xs = x := by
 unfold orN
 rw [List.find?_eq_some_iff_append.2 ⟨by simpa using hne, xs.take k, xs.drop (k + 1), ?_, fun y hy => by simp [h y hy]⟩]
 ·rfl
 obtain ⟨h1, h2⟩ := List.getElem?_eq_some_iff.1 hx
 rw [← h2, ← List.drop_eq_getElem_cons h1, List.take_append_drop]
theorem ukb {xs : List Int} (h : ∀ y ∈ xs, y = 0) : orN xs = 0 := by
 unfold orN
 rw [List.find?_eq_none.2 fun y hy => by simp [h y hy]]
 rfl
theorem uk1 {α : Type} {l : List α} {k : Nat} {x : α} {p : α → Prop} (hx : l[k]? = some x) (hp : p x) (h : ∀ y ∈ l.take k, p y) : ∀ y ∈ l.take (k + 1), p y := fun y hy => by
 rw [List.take_add_one, hx] at hy
 simp only [Option.toList_some, List.mem_append, List.mem_singleton] at hy
 rcases hy with hy | rfl
 ·exact h y hy
 exact hp
def mc (a b : PlaceD) : Int := fb (dh a) (dh b)
theorem uka (a b : PlaceD) : orN [ip a.ch b.ch, ip a.ln b.ln, ip a.wd b.wd] = mc a b := by
 unfold orN mc dh
 simp only [fb]
 by_cases h1 : ip a.ch b.ch = 0
 ·by_cases h2 : ip a.ln b.ln = 0
  ·by_cases h3 : ip a.wd b.wd = 0 <;> simp [h1, h2, h3]
  simp [h1, h2]
 simp [h1]
/-- the order of lists, shorter ones first -/
def ym (a b : List Int) : Int := orN [(a.length : Int) - (b.length : Int), fb a b]
theorem vg (a b : List Int) : decide (ym a b < 0) = ig a b := by
 unfold ym orN ig
 by_cases h1 : (a.length : Int) - (b.length : Int) = 0
 ·have h2 : a.length = b.length := by omega
  have h3 : ¬ a.length < b.length := by omega
  by_cases h4 : fb a b = 0
  ·simp [h2, h4]
  simp [h2, h4]
 have h2 : ¬ a.length = b.length := by omega
 by_cases h3 : a.length < b.length
 ·have : (a.length : Int) - (b.length : Int) < 0 := by omega
  simp [h1, h2, h3, this]
 have : ¬ (a.length : Int) - (b.length : Int) < 0 := by omega
 simp [h1, h2, h3, this]
def mq (t : aj) (k : Nat) : List Int := (List.range k).map fun i => (fu t i : Int)
theorem ubp (t : aj) (k : Nat) : (mq t k).length = k := by simp [mq]
theorem ubq {t : aj} {k i : Nat} (h : i < k) : (mq t k)[i]? = some (fu t i : Int) := by simp [mq, h]
theorem uho (t : aj) (k : Nat) : mq t (k + 1) = mq t k ++ [(fu t k : Int)] := by
 unfold mq
 rw [List.range_succ, List.map_append]; rfl
theorem u7 {t : aj} (ht : dq t = true) (k : Nat) (hk : k ≤ t.length) : fu t k ≤ 60 := by
 obtain ⟨h1, h2, h3⟩ := lu ht
 have key : ∀ k, k ≤ t.length → fu t k ≤ 10 * k := by
  intro k
  induction k with
  | zero => intro _; rw [ubr]; exact Nat.zero_le _
  | succ k ih =>
   intro hk
   have hc : t[k]? = some t[k] := List.getElem?_eq_getElem (by omega)
   rw [su hc]
   have := ih (by omega)
   have := (h3 _ (fg hc)).2.1
   omega
 have := key k hk
 omega
end Go.AB
namespace Go.Proofs.YtbbdginipiljdaaGreatDoor
set_option maxRecDepth 10000
open Go.RowKit Go.AB
open Go.AB.Enc (cells)
open Go.PB (az aj PlaceD bj bl bk bw av ai c6 cv dj di)
theorem uc0 (xs : List Int) : Pure Tryz.prog 92 [lst xs] (.v (.int .i64 (orN xs))) := by
 refine cw Tryz.func92 rfl (fun m => .v) fun G nx => ?_
 simp only [Tryz.ntmps92, List.length_cons, List.length_nil, Nat.reduceAdd, Nat.reduceSub]
 refine bx fun hlt => ?_
 dsimp only at hlt
 refine jz 0 (fun hf => ?_)
 replace hf := (fit_lst.1 hf).1
 refine yS fun _ K1 => ?_
 refine yR ?_
 refine yA rfl rfl ?_
 refine yN ?_
 dsimp only [St.put]
 refine K1 _ ?_
 refine yS fun _ K2 => ?_
 refine yR ?_
 refine yA rfl rfl ?_
 refine yN ?_
 dsimp only [St.put]
 refine K2 _ ?_
 refine yS fun _ K3 => ?_
 refine yS fun _ K4 => ?_
 refine yR ?_
 refine yM rfl rfl ?_
 refine aa rfl (bg rfl rfl (List.length_map _)) ?_
 refine yM rfl rfl ?_
 refine yN ?_
 dsimp only [St.put]
 refine K4 _ ?_
 refine ay ?_
 refine ci 9 ?_
 refine zQ ?_
 refine c4 (G) zX ?_
 dsimp only
 refine cz (X := Nat) (fun k => k ≤ xs.length ∧ ∀ y ∈ xs.take k, y = 0) (fun k => xs.length - k) (fun k => [(4, .any), (5, .any), (8, .v (.int .i64 (k : Int)))]) (fun k G' => G') 0 rfl ?_ ?_ (fun _ _ h => h) ?_ ?_ ?_
 ·exact ⟨by simp, by simp⟩
 ·exact zF
 ·rintro k hI
  exact zL
 ·exact fun _ _ _ _ h => .inl h
 rintro k hI
 dsimp only at hI ⊢
 refine yS fun _ K5 => ?_
 refine yR ?_
 refine aa rfl (cg rfl rfl rfl) ?_
 refine yN ?_
 dsimp only [St.put]
 refine K5 _ ?_
 refine yS fun _ K6 => ?_
 refine am rfl (fun hc => ?_) (fun hc => ?_)
 ·replace hc := of_decide_eq_true hc
  obtain ⟨x, hx⟩ : ∃ x, xs[k]? = some x := da (by omega)
  refine aw ?_
  refine K6 _ ?_
  refine yS fun _ K7 => ?_
  refine ay ?_
  refine yS fun _ K8 => ?_
  refine yR ?_
  refine aa rfl (bn rfl rfl rfl rfl (bi (by assumption)) (Enc.len _)) ?_
  refine yL rfl rfl rfl ?_
  refine yA rfl rfl ?_
  refine yN ?_
  dsimp only [St.put]
  refine K8 _ ?_
  refine yS fun _ K9 => ?_
  refine yR ?_
  refine yM rfl rfl ?_
  refine yM rfl rfl ?_
  refine aa rfl (fl rfl rfl rfl) ?_
  refine yN ?_
  dsimp only [St.put]
  refine K9 _ ?_
  refine am rfl (fun hc => ?_) (fun hc => ?_)
  ·replace hc := je hc
   refine yS fun _ K10 => ?_
   refine yR ?_
   refine yM rfl rfl ?_
   refine yA rfl rfl ?_
   refine yN ?_
   dsimp only [St.put]
   refine K10 _ ?_
   refine aq ?_
   refine bh rfl (by constructor) zN zS ?_
   exact vi (uj9 hx hc hI.2).symm
  replace hc := gq hc
  refine aw ?_
  refine K7 _ ?_
  refine yR ?_
  refine aa rfl (bp rfl rfl rfl (by omega)) ?_
  refine yM rfl rfl ?_
  refine yN ?_
  dsimp only [St.put]
  exact ⟨k + 1, by omega, ⟨by omega, uk1 hx hc hI.2⟩, ⟨⟨rfl, rfl⟩, zF, zB, zN, zX⟩⟩
 try replace hc := of_decide_eq_false hc
 refine cr ?_
 refine K3 _ ?_
 refine yS fun _ K11 => ?_
 refine yR ?_
 refine yM rfl rfl ?_
 refine yA rfl rfl ?_
 refine yN ?_
 dsimp only [St.put]
 refine K11 _ ?_
 refine aq ?_
 refine bh rfl (by constructor) zN zS ?_
 exact vi (by
  rw [ukb]
  have := hI.2
  rwa [el (by omega)] at this)
theorem uj3 (n lo hi : Int) : Pure Tryz.prog 96 [.v (.int .i64 n), .elem [.v (.int .i64 lo)], .elem [.v (.int .i64 hi)]] (.v (.bool (mr n lo hi))) := by
 refine cw Tryz.func96 rfl (fun m => .v) fun G nx => ?_
 simp only [Tryz.ntmps96, List.length_cons, List.length_nil, Nat.reduceAdd, Nat.reduceSub]
 refine bx fun hlt => ?_
 dsimp only at hlt
 refine yS fun _ K1 => ?_
 refine yR ?_
 refine yA rfl rfl ?_
 refine yN ?_
 dsimp only [St.put]
 refine K1 _ ?_
 refine yS fun _ K2 => ?_
 refine yR ?_
 refine yM rfl rfl ?_
 refine yL rfl rfl rfl ?_
 refine aa rfl (cg rfl rfl rfl) ?_
 refine ei (fun hs => ?_) (fun hs => ?_)
 ·try replace hs := of_decide_eq_true hs
  refine yM rfl rfl ?_
  refine yK rfl ?_
  refine yK rfl ?_
  refine yK rfl ?_
  refine aa rfl (cy rfl rfl (by constructor)) ?_
  refine yA rfl rfl ?_
  refine yN ?_
  dsimp only [St.put]
  refine K2 _ ?_
  refine aq ?_
  refine bh rfl (by constructor) zN zS ?_
  exact vb (by simp [mr, hs]; try omega)
 try replace hs := of_decide_eq_false hs
 refine yM rfl rfl ?_
 refine yM rfl rfl ?_
 refine yL rfl rfl rfl ?_
 refine aa rfl (iq rfl rfl rfl) ?_
 refine aa rfl (cm rfl rfl (by constructor)) ?_
 refine yA rfl rfl ?_
 refine yN ?_
 dsimp only [St.put]
 refine K2 _ ?_
 refine aq ?_
 refine bh rfl (by constructor) zN zS ?_
 exact vb (by simp [mr, hs]; try omega)
theorem ou (lo hi : Int) (xs : List Int) : Pure Tryz.prog 76 [.v (.int .i64 lo), .v (.int .i64 hi), lst xs] (.v (.bool (w7 lo hi xs))) := by
 refine cw Tryz.func76 rfl (fun m => .v) fun G nx => ?_
 simp only [Tryz.ntmps76, List.length_cons, List.length_nil, Nat.reduceAdd, Nat.reduceSub]
 refine bx fun hlt => ?_
 dsimp only at hlt
 refine yS fun _ K1 => ?_
 refine yR ?_
 try dsimp only [St.put]
 refine yB rfl rfl rfl ?_
 try dsimp only [St.put]
 refine yB rfl rfl rfl ?_
 refine yA rfl rfl ?_
 refine yN ?_
 dsimp only [St.put]
 refine K1 _ ?_
 refine yS fun _ K2 => ?_
 refine yR ?_
 refine yM rfl rfl ?_
 refine aa rfl (rf rfl rfl) ?_
 try dsimp only [St.put]
 refine ae rfl (ba rfl rfl rfl (xx xs (fun n => mr n lo hi) _ _ fun x _ => uj3 x lo hi) ?_)
 refine aa rfl (dr rfl rfl) ?_
 refine yA rfl rfl ?_
 refine yN ?_
 dsimp only [St.put]
 refine K2 _ ?_
 refine aq ?_
 refine bh rfl (by constructor) zN zS ?_
 rfl
theorem y6 (a b : PlaceD) : Pure Tryz.prog 84 [val a, val b] (.v (.int .i64 (mc a b))) := by
 refine cw Tryz.func84 rfl (fun m => .v) fun G nx => ?_
 simp only [Tryz.ntmps84, List.length_cons, List.length_nil, Nat.reduceAdd, Nat.reduceSub]
 refine bx fun hlt => ?_
 dsimp only at hlt
 refine yS fun _ K1 => ?_
 refine yR ?_
 try dsimp only [St.put]
 refine yB rfl rfl rfl ?_
 try dsimp only [St.put]
 refine yB rfl rfl rfl ?_
 refine yA rfl rfl ?_
 refine yN ?_
 dsimp only [St.put]
 refine K1 _ ?_
 refine yS fun _ K2 => ?_
 refine et [(0, none), (1, none), (2, none), (3, none), (5, none), (6, none), (7, none), (8, none), (10, none), (11, none), (12, none), (13, none), (4, none), (9, none), (14, none), (15, none), (16, none), (17, none)] (fun i => [14, 15, 16].contains i) (fun i => [4, 9, 14, 15, 16].contains i) (fun i => [0, 2, 5, 7, 10, 12, 17].contains i) [] (by kernel_rfl) (by kernel_rfl) ?_
 refine af rfl rfl rfl rfl (cj rfl rfl rfl) ?_
 try dsimp only [St.put]
 refine ar rfl rfl rfl rfl (br rfl rfl) ?_
 refine af rfl rfl rfl rfl (cj rfl rfl rfl) ?_
 try dsimp only [St.put]
 refine ar rfl rfl rfl rfl (br rfl rfl) ?_
 refine af rfl rfl rfl rfl (cj rfl rfl rfl) ?_
 try dsimp only [St.put]
 refine ar rfl rfl rfl rfl (br rfl rfl) ?_
 refine af rfl rfl rfl rfl (cj rfl rfl rfl) ?_
 try dsimp only [St.put]
 refine ar rfl rfl rfl rfl (br rfl rfl) ?_
 refine af rfl rfl rfl rfl (cj rfl rfl rfl) ?_
 try dsimp only [St.put]
 refine ar rfl rfl rfl rfl (br rfl rfl) ?_
 refine af rfl rfl rfl rfl (cj rfl rfl rfl) ?_
 try dsimp only [St.put]
 refine ar rfl rfl rfl rfl (br rfl rfl) ?_
 refine g9 ?_
 try dsimp only [St.put]
 refine gu rfl rfl rfl (ba rfl rfl rfl (xj _ _) ⟨zD, ?_⟩)
 try dsimp only [St.put]
 refine gu rfl rfl rfl (ba rfl rfl rfl (xj _ _) ⟨zD, ?_⟩)
 try dsimp only [St.put]
 refine fe rfl rfl rfl rfl (ba rfl rfl rfl (xj _ _) ?_)
 try dsimp only [St.put]
 refine fe rfl rfl rfl rfl (eg rfl rfl rfl (by decide) (by decide) zR (by decide) ?_)
 try dsimp only [St.put]
 refine fe rfl rfl rfl rfl (ba rfl rfl rfl (uc0 [ip a.ch b.ch, ip a.ln b.ln, ip a.wd b.wd]) ?_)
 refine ed rfl rfl rfl rfl (fw rfl (by constructor)) ?_
 refine g8 ?_
 dsimp only [St.put]
 refine K2 _ ?_
 refine aq ?_
 refine bh rfl (by constructor) zN zS ?_
 exact vi (uka a b)
theorem ujy (a b : List Int) (ha : a.length ≤ 1000) (hb : b.length ≤ 1000) : Pure Tryz.prog 57 [lst a, lst b] (.v (.int .i64 (ym a b))) := by
 refine cw Tryz.func57 rfl (fun m => .v) fun G nx => ?_
 simp only [Tryz.ntmps57, List.length_cons, List.length_nil, Nat.reduceAdd, Nat.reduceSub]
 refine bx fun hlt => ?_
 dsimp only at hlt
 refine yS fun _ K1 => ?_
 refine yR ?_
 refine yA rfl rfl ?_
 refine yN ?_
 dsimp only [St.put]
 refine K1 _ ?_
 refine yS fun _ K2 => ?_
 refine yR ?_
 refine yM rfl rfl ?_
 refine aa rfl (bg rfl rfl (List.length_map _)) ?_
 refine yM rfl rfl ?_
 refine aa rfl (bg rfl rfl (List.length_map _)) ?_
 refine aa rfl (f9 rfl rfl rfl (by omega)) ?_
 refine yM rfl rfl ?_
 refine yM rfl rfl ?_
 try dsimp only [St.put]
 refine ae rfl (ba rfl rfl rfl (umv a b ha hb) ?_)
 try dsimp only [St.put]
 refine ae rfl (eg rfl rfl rfl (by decide) (by decide) zR (by decide) ?_)
 try dsimp only [St.put]
 refine ae rfl (ba rfl rfl rfl (uc0 [(a.length : Int) - (b.length : Int), fb a b]) ?_)
 refine yA rfl rfl ?_
 refine yN ?_
 dsimp only [St.put]
 refine K2 _ ?_
 refine aq ?_
 refine bh rfl (by constructor) zN zS ?_
 rfl
theorem ujx (t : aj) (q : PlaceD) (ht : dq t = true) : Pure Tryz.prog 83 [fa t, val q] (.v (.bool (fm t q))) := by
 refine cw Tryz.func83 rfl (fun m => .v) fun G nx => ?_
 simp only [Tryz.ntmps83, List.length_cons, List.length_nil, Nat.reduceAdd, Nat.reduceSub]
 refine bx fun hlt => ?_
 dsimp only at hlt
 obtain ⟨hl1, hl2, hl3⟩ := lu ht
 refine yS fun _ K1 => ?_
 refine yR ?_
 try dsimp only [St.put]
 refine yB rfl rfl rfl ?_
 try dsimp only [St.put]
 refine yB rfl rfl rfl ?_
 refine yA rfl rfl ?_
 refine yN ?_
 dsimp only [St.put]
 refine K1 _ ?_
 refine yS fun _ K2 => ?_
 refine ci 5 ?_
 refine zQ ?_
 refine ki (X := Bool) (fun b => b = !(ia t (q.ch, q.ln)).isSome) (fun b => [(29, .v (.bool b))]) (fun b G' => G') rfl ?_ (fun _ _ _ _ h => .inl h) ?_ ?_
 ·rintro b hI
  exact zL
 ·refine px [(0, none), (1, none), (2, none), (3, none), (4, none), (5, none)] (fun _ => false) (fun i => [0, 2, 3, 4].contains i) 19 (rl [6, 19]) (by kernel_rfl) (by kernel_rfl) ?_
  refine af rfl rfl rfl rfl (cj rfl rfl rfl) ?_
  try dsimp only [St.put]
  refine ar rfl rfl rfl rfl (br rfl rfl) ?_
  refine af rfl rfl rfl rfl (bg rfl rfl (List.length_map _)) ?_
  refine af rfl rfl rfl rfl (f9 rfl rfl rfl (by omega)) ?_
  refine af rfl rfl rfl rfl (cj rfl rfl rfl) ?_
  try dsimp only [St.put]
  refine ar rfl rfl rfl rfl (br rfl rfl) ?_
  refine ce ?_
  refine bz [6] (by kernel_rfl) (by simp) ?_
  refine bq ?_ ?_
  ·try dsimp only [St.put]
   refine co rfl rfl rfl (eg rfl rfl rfl (by decide) (by decide) zR (by decide) ?_)
   refine bz [7] (by kernel_rfl) (by simp) ?_
   refine bq ?_ ?_
   ·try dsimp only [St.put]
    refine co rfl rfl rfl (ba rfl rfl rfl (ou _ _ [_]) ?_)
    refine dt [(8, none), (9, none), (10, none), (11, none), (12, none), (13, none), (14, none), (15, none), (16, none), (17, none), (18, none), (19, none), (20, none)] (fun i => [8, 9, 10, 12, 14, 15, 17, 18, 19].contains i) 4 (rl [21, 4]) (by kernel_rfl) ?_
    refine af rfl rfl rfl rfl (dr rfl rfl) ?_
    refine xM rfl rfl rfl rfl rfl ?_
    refine j5 (fun hs => ?_) (fun hs => ?_)
    ·have h8 : inB q.ch 0 ((t.length : Int) - 1) = false := by rw [gr] at hs; simpa using hs
     refine ak rfl rfl rfl ?_
     refine ak rfl rfl rfl ?_
     refine ak rfl rfl rfl ?_
     refine ak rfl rfl rfl ?_
     refine ak rfl rfl rfl ?_
     refine ak rfl rfl rfl ?_
     refine ak rfl rfl rfl ?_
     refine ak rfl rfl rfl ?_
     refine ak rfl rfl rfl ?_
     refine ak rfl rfl rfl ?_
     refine ak rfl rfl rfl ?_
     refine ce ?_
     refine bz [21] (by kernel_rfl) (by simp) ?_
     refine bq ?_ ?_
     ·refine ge rfl rfl rfl ?_
      refine bz [22] (by kernel_rfl) (by simp) ?_
      refine bq ?_ ?_
      ·refine ge rfl rfl rfl ?_
       refine dt [(23, none), (24, none)] (fun i => [23, 24].contains i) 0 (rl [25]) (by kernel_rfl) ?_
       refine ak rfl rfl rfl ?_
       refine af rfl rfl rfl rfl (cy rfl rfl (by constructor)) ?_
       refine ce ?_
       dsimp only [St.put]
       refine eu (by kernel_rfl) ?_
       refine ⟨_, ?_, ⟨⟨rfl, rfl⟩, zF, zB, zN, zX⟩⟩
       rw [ux]
       (simp [h8]; done)
      exact ca
     exact ca
    have h8 : inB q.ch 0 ((t.length : Int) - 1) = true := by rw [gr] at hs; simpa using hs
    have hn1' := h8
    simp only [inB_true] at hn1'
    obtain ⟨c, hcx⟩ : ∃ c, t[q.ch.toNat]? = some c := da (by omega)
    have hnl : l3 t q.ch = c.lines.length := by simp [l3, hcx]
    have hll := (hl3 c (fg hcx)).2.1
    have hch : q.ch = ((q.ch.toNat : Nat) : Int) := by omega
    refine af rfl rfl rfl rfl (cj rfl rfl rfl) ?_
    try dsimp only [St.put]
    refine ar rfl rfl rfl rfl (br rfl rfl) ?_
    refine af rfl rfl rfl rfl (cj rfl rfl rfl) ?_
    try dsimp only [St.put]
    refine ar rfl rfl rfl rfl (br rfl rfl) ?_
    try dsimp only [St.put]
    refine af rfl rfl rfl rfl (bn rfl rfl rfl (by omega) (bi (by assumption)) (Enc.len _)) ?_
    refine af rfl rfl rfl rfl (cj rfl rfl rfl) ?_
    try dsimp only [St.put]
    refine ar rfl rfl rfl rfl (br rfl rfl) ?_
    refine af rfl rfl rfl rfl (bg rfl rfl (List.length_map _)) ?_
    refine af rfl rfl rfl rfl (f9 rfl rfl rfl (by omega)) ?_
    refine af rfl rfl rfl rfl (cj rfl rfl rfl) ?_
    try dsimp only [St.put]
    refine ar rfl rfl rfl rfl (br rfl rfl) ?_
    refine ce ?_
    refine bz [21] (by kernel_rfl) (by simp) ?_
    refine bq ?_ ?_
    ·try dsimp only [St.put]
     refine co rfl rfl rfl (eg rfl rfl rfl (by decide) (by decide) zR (by decide) ?_)
     refine bz [22] (by kernel_rfl) (by simp) ?_
     refine bq ?_ ?_
     ·try dsimp only [St.put]
      refine co rfl rfl rfl (ba rfl rfl rfl (ou _ _ [_]) ?_)
      refine dt [(23, none), (24, none)] (fun i => [23, 24].contains i) 0 (rl [25]) (by kernel_rfl) ?_
      refine af rfl rfl rfl rfl (dr rfl rfl) ?_
      refine af rfl rfl rfl rfl (cm rfl rfl (by constructor)) ?_
      refine ce ?_
      dsimp only [St.put]
      refine eu (by kernel_rfl) ?_
      refine ⟨_, ?_, ⟨⟨rfl, rfl⟩, zF, zB, zN, zX⟩⟩
      rw [ux]
      (simp [h8, hnl, gr]; done)
     exact ca
    exact ca
   exact ca
  exact ca
 rintro b hst
 dsimp only at hst ⊢
 refine am rfl (fun hc => ?_) (fun hc => ?_)
 ·have hw : ia t (q.ch, q.ln) = none := by rw [hc] at hst; simpa using hst.symm
  refine yS fun _ K4 => ?_
  refine yR ?_
  refine yA rfl rfl ?_
  refine yN ?_
  dsimp only [St.put]
  refine K4 _ ?_
  refine aq ?_
  refine bh rfl (by constructor) zN zS ?_
  exact vb (by unfold fm; rw [hw])
 have hw0 : (ia t (q.ch, q.ln)).isSome = true := by rw [hc] at hst; simpa using hst.symm
 obtain ⟨l, hw⟩ := Option.isSome_iff_exists.1 hw0
 obtain ⟨k, n, c, hkn, hk, hn⟩ := sj hw
 have hch : q.ch = ((k : Nat) : Int) := congrArg Prod.fst hkn
 have hln : q.ln = ((n : Nat) : Int) := congrArg Prod.snd hkn
 have hwl := uv ht hw
 refine aw ?_
 refine K2 _ ?_
 refine yS fun _ K5 => ?_
 refine et [(0, none), (1, none), (2, none), (3, none), (4, none), (5, none), (6, none), (7, none), (8, none), (9, none), (10, none), (11, none), (12, none), (13, none), (14, none), (15, none), (16, none), (17, none)] (fun i => [16].contains i) (fun i => [15, 16].contains i) (fun i => [0, 2, 4, 5, 7, 9, 11, 12, 13, 17].contains i) [] (by kernel_rfl) (by kernel_rfl) ?_
 refine af rfl rfl rfl rfl (cj rfl rfl rfl) ?_
 try dsimp only [St.put]
 refine ar rfl rfl rfl rfl (br rfl rfl) ?_
 refine af rfl rfl rfl rfl (cj rfl rfl rfl) ?_
 try dsimp only [St.put]
 refine ar rfl rfl rfl rfl (br rfl rfl) ?_
 try dsimp only [St.put]
 refine af rfl rfl rfl rfl (bn rfl rfl rfl (by omega) (bi (by assumption)) (Enc.len _)) ?_
 refine af rfl rfl rfl rfl (cj rfl rfl rfl) ?_
 try dsimp only [St.put]
 refine ar rfl rfl rfl rfl (br rfl rfl) ?_
 refine af rfl rfl rfl rfl (cj rfl rfl rfl) ?_
 try dsimp only [St.put]
 refine ar rfl rfl rfl rfl (br rfl rfl) ?_
 try dsimp only [St.put]
 refine af rfl rfl rfl rfl (bn rfl rfl rfl (by omega) (bi (by assumption)) (Enc.len _)) ?_
 try dsimp only [St.put]
 refine ar rfl rfl rfl rfl (br rfl rfl) ?_
 refine af rfl rfl rfl rfl (bg rfl rfl (List.length_map _)) ?_
 refine af rfl rfl rfl rfl (f9 rfl rfl rfl (by omega)) ?_
 refine af rfl rfl rfl rfl (cj rfl rfl rfl) ?_
 try dsimp only [St.put]
 refine ar rfl rfl rfl rfl (br rfl rfl) ?_
 refine g9 ?_
 try dsimp only [St.put]
 refine gu rfl rfl rfl (eg rfl rfl rfl (by decide) (by decide) zR (by decide) ⟨zD, ?_⟩)
 try dsimp only [St.put]
 refine fe rfl rfl rfl rfl (ba rfl rfl rfl (ou _ _ [_]) ?_)
 refine ed rfl rfl rfl rfl (fw rfl (by constructor)) ?_
 refine g8 ?_
 dsimp only [St.put]
 refine K5 _ ?_
 refine aq ?_
 refine bh rfl (by constructor) zN zS ?_
 exact vb (by unfold fm; rw [hw, gr])
theorem uj2 (t : aj) (ht : dq t = true) : Pure Tryz.prog 82 [fa t] (.tup [lst (mq t t.length), .v (.int .i64 (mu t : Int))]) := by
 refine cw Tryz.func82 rfl (fun m => .tup (cp (cc _ _) (cp .v dp))) fun G nx => ?_
 simp only [Tryz.ntmps82, List.length_cons, List.length_nil, Nat.reduceAdd, Nat.reduceSub]
 refine bx fun hlt => ?_
 dsimp only at hlt
 obtain ⟨hl1, hl2, hl3⟩ := lu ht
 refine yS fun _ K1 => ?_
 refine yR ?_
 try dsimp only [St.put]
 refine yB rfl rfl rfl ?_
 refine yA rfl rfl ?_
 refine yA rfl rfl ?_
 refine yN ?_
 dsimp only [St.put]
 refine K1 _ ?_
 refine yS fun _ K2 => ?_
 refine yR ?_
 refine yA rfl rfl ?_
 refine yN ?_
 dsimp only [St.put]
 refine K2 _ ?_
 refine lk 4 3 1 rfl (by decide) ?_
 dsimp only [List.set_cons_zero, List.set_cons_succ]
 refine yS fun _ K3 => ?_
 refine yR ?_
 refine yA rfl rfl ?_
 refine yN ?_
 dsimp only [St.put]
 refine K3 _ ?_
 refine yS fun _ K4 => ?_
 refine yS fun _ K5 => ?_
 refine yR ?_
 refine yF rfl rfl rfl rfl ?_
 refine yL rfl rfl rfl ?_
 refine aa rfl (bg rfl rfl (List.length_map _)) ?_
 refine yM rfl rfl ?_
 refine yN ?_
 dsimp only [St.put]
 refine K5 _ ?_
 refine ay ?_
 refine ci 12 ?_
 refine zQ ?_
 refine c4 (ah G nx (.tip 0 3 1)) zX ?_
 dsimp only
 refine cz (X := Nat) (fun k => k ≤ t.length) (fun k => t.length - k) (fun k => [(4, .list ((mq t k).map cells) (.tip nx)), (5, .v (.int .i64 (fu t k : Int))), (7, .any), (11, .v (.int .i64 (k : Int)))]) (fun k G' => ah G nx (.tip (mq t k).length 3 1)) 0 rfl ?_ ?_ ?_ ?_ ?_ ?_
 ·exact Nat.zero_le _
 ·exact zF
 ·exact zX
 ·rintro k hI
  exact zL
 ·rintro k hI
  exact zH
 rintro k hI
 dsimp only at hI ⊢
 refine yS fun _ K6 => ?_
 refine yR ?_
 refine aa rfl (cg rfl rfl rfl) ?_
 refine yN ?_
 dsimp only [St.put]
 refine K6 _ ?_
 refine yS fun _ K7 => ?_
 refine am rfl (fun hc => ?_) (fun hc => ?_)
 ·replace hc := of_decide_eq_true hc
  obtain ⟨c, hcx⟩ : ∃ c, t[k]? = some c := da (by omega)
  have hll := (hl3 c (fg hcx)).2.1
  have hsl := u7 ht k (by omega)
  have hst : ((fu t (k + 1) : Nat) : Int) = (fu t k : Int) + (c.lines.length : Int) := by rw [su hcx]; omega
  have hln := ubp t k
  refine aw ?_
  refine K7 _ ?_
  refine yS fun _ K8 => ?_
  refine ay ?_
  refine yS fun _ K9 => ?_
  refine yR ?_
  refine aa rfl (bn rfl rfl rfl rfl (bi (by assumption)) (Enc.len _)) ?_
  refine yE rfl rfl rfl ?_
  try dsimp only [St.put]
  refine ae rfl (dd rfl ?_)
  try dsimp only [St.put]
  refine ae rfl (cn rfl rfl rfl zG rfl rfl (by rfl) ?_)
  refine yN ?_
  dsimp only [St.put]
  refine K9 _ ?_
  refine fq (i := 7) rfl zG zC ?_
  dsimp only
  refine yS fun _ K10 => ?_
  refine yR ?_
  refine yM rfl rfl ?_
  refine yM rfl rfl ?_
  try dsimp only [St.put]
  refine ae rfl (eg rfl rfl rfl (by decide) (by decide) zR (by decide) ?_)
  try dsimp only [St.put]
  refine ae rfl (ib ([(fu t k : Int)]) rfl rfl zG zE rfl rfl zA ?_ zA)
  refine yA rfl rfl ?_
  refine yN ?_
  dsimp only [St.put]
  refine K10 _ ?_
  refine yR ?_
  refine yM rfl rfl ?_
  refine yF rfl rfl rfl rfl ?_
  refine yL rfl rfl rfl ?_
  refine aa rfl (bg rfl rfl (List.length_map _)) ?_
  refine aa rfl (bp rfl rfl rfl (by omega)) ?_
  refine yA rfl rfl ?_
  refine yN ?_
  dsimp only [St.put]
  refine K8 _ ?_
  refine yR ?_
  refine aa rfl (bp rfl rfl rfl (by omega)) ?_
  refine yM rfl rfl ?_
  refine yN ?_
  dsimp only [St.put]
  rw [← hst]
  simp only [← uho]
  exact ⟨k + 1, by omega, by omega, ⟨⟨rfl, rfl⟩, zF, zB, zN, zX⟩⟩
 replace hc := of_decide_eq_false hc
 obtain rfl : k = t.length := by omega
 refine cr ?_
 refine K4 _ ?_
 refine yS fun _ K11 => ?_
 refine yR ?_
 refine yM rfl rfl ?_
 refine yM rfl rfl ?_
 refine yA rfl rfl ?_
 refine yA rfl rfl ?_
 refine yN ?_
 dsimp only [St.put]
 refine K11 _ ?_
 refine aq ?_
 refine im rfl (du (by constructor)) (du (by constructor)) zN zS ?_ ?_
 ·exact zW
 exact Wk.of_eq (vi rfl)
end Go.Proofs.YtbbdginipiljdaaGreatDoor
namespace Go.AB
open Go Go.RowKit Go.ChangeShapes Go.WideShapes
open Go.AB.Enc (cells)
open Go.PB (az aj PlaceD bj bl bk)
/-- What is read along a type is a datum. -/
class OpensE (P : Program) (t : TypeId) (α : Type) [Enc α] : Prop where
 n : P.cellsOf t = Enc.n α
 op : ∀ {H : Type} {enc : TypeId × Value → H} {w : World} {base : Nat} {spare : Nat → Bool} {held : Bool} {fuel : Nat} {cs : List Value} {x : DataW H × List MemPlace}, DataW.trod enc P w base spare held fuel t cs = some x → ∃ a : α, Rs (j0 w) w (cells a) cs
def t6 (P : Program) (t : TypeId) (k : IntKind) : Bool := match P.underlying t with | some (.int k') => k' == k && P.cellsOf t == 1 | _ => false
def yi (P : Program) (t : TypeId) : Bool := match P.underlying t with | some .string => P.cellsOf t == 1 | _ => false
def yl (P : Program) (t e : TypeId) : Bool := match P.underlying t with | some (.slice e') => e' == e && P.cellsOf t == 1 | _ => false
def jr (P : Program) (t : TypeId) (l : List (Nat × TypeId × Nat)) (n : Nat) : Bool := match P.underlying t with
 | some (.struct fs) => (fs.toList.map fun f => (f.offset, f.type, P.cellsOf f.type)) == l && P.cellsOf t == n
 | _ => false
theorem ubd {n : Int} (h : (Lit.int .i64 n).wf = true) : okV (.int .i64 n) = true := by
 simp [Lit.wf, IntKind.min, IntKind.max, IntKind.signed, IntKind.bits] at h
 exact kz ⟨by omega, by omega⟩
section
variable {P : Program} {t e : TypeId}
theorem zx {k : IntKind} (h : t6 P t k = true) : P.underlying t = some (.int k) ∧ P.cellsOf t = 1 := by
 unfold t6 at h
 split at h
 ·rename_i k' he
  simp only [Bool.and_eq_true, beq_iff_eq] at h
  rw [he, h.1]; exact ⟨rfl, h.2⟩
 ·cases h
theorem ubn (h : yi P t = true) : P.underlying t = some .string ∧ P.cellsOf t = 1 := by
 unfold yi at h
 split at h
 ·rename_i he; exact ⟨he, by simpa using h⟩
 ·cases h
theorem ubu (h : yl P t e = true) : P.underlying t = some (.slice e) ∧ P.cellsOf t = 1 := by
 unfold yl at h
 split at h
 ·rename_i k' he
  simp only [Bool.and_eq_true, beq_iff_eq] at h
  rw [he, h.1]; exact ⟨rfl, h.2⟩
 ·cases h
theorem Rs.single {E : Env} {w : World} {c : C} {v : Value} (h : R E w c v) : Rs E w [c] [v] := Rs.cons h Rs.nil
theorem Rs.single_inv {E : Env} {w : World} {c : C} {v : Value} (h : Rs E w [c] [v]) : R E w c v := h.2 0 c v rfl rfl
theorem OpensE.int (h : t6 P t .i64 = true) : OpensE P t Int where
 n := (zx h).2
 op hx := by
  obtain ⟨n, rfl, _, h2⟩ := DataW.trod_int (zx h).1 hx
  exact ⟨n, Rs.single (.v (ubd h2))⟩
theorem OpensE.str (h : yi P t = true) : OpensE P t ByteArray where
 n := (ubn h).2
 op hx := by
  obtain ⟨s, rfl, _, h2⟩ := DataW.trod_string (ubn h).1 hx
  exact ⟨s, Rs.single (.v (okV_str.2 (by simpa [maxLen] using h2)))⟩
theorem uhp {w : World} {a : Addr} {v : Value} (h : w.cell? a = some v) : a.spot = none := by
 unfold World.cell? at h
 split at h
 ·split at h
  ·cases h
  ·rename_i hs
   cases hsp : a.spot with
   | none => rfl
   | some s => simp [hsp] at hs
 ·cases h
theorem udy {α : Type} {p : Nat → α → Prop} : ∀ (n : Nat), (∀ i, i < n → ∃ x, p i x) → ∃ xs : List α, xs.length = n ∧ ∀ i x, xs[i]? = some x → p i x
 | 0, _ => ⟨[], rfl, fun i x h => by simp at h⟩
 | n + 1, h => by
  obtain ⟨xs, h1, h2⟩ := udy n fun i hi => h i (by omega)
  obtain ⟨y, hy⟩ := h n (by omega)
  refine ⟨xs ++ [y], by simp [h1], fun i x hx => ?_⟩
  by_cases hi : i < xs.length
  ·rw [List.getElem?_append_left hi] at hx; exact h2 i x hx
  ·rw [List.getElem?_append_right (by omega)] at hx
   have hz : i - xs.length = 0 := by
    have := (List.getElem?_eq_some_iff.1 hx).1
    simp at this; omega
   rw [hz] at hx
   simp at hx
   subst hx
   rw [show i = n by omega]; exact hy
theorem ub7 {α : Type} [Enc α] {E : Env} {w : World} {b : Nat} : ∀ (xs : List α) (off : Nat), (∀ i x, xs[i]? = some x → ∃ es, Rs E w (cells x) es ∧ ∀ j e, es[j]? = some e → w.cell? ⟨b, off + i * Enc.n α + j, none⟩ = some e) →
  ∃ us, Rs E w (xs.map cells).flatten us ∧ ∀ j u, us[j]? = some u → w.cell? ⟨b, off + j, none⟩ = some u
 | [], off, _ => ⟨[], Rs.nil, by simp⟩
 | x :: xs, off, h => by
  obtain ⟨es, h1, h2⟩ := h 0 x rfl
  obtain ⟨us, h3, h4⟩ := ub7 xs (off + Enc.n α) fun i y hy => by
   obtain ⟨fs, k1, k2⟩ := h (i + 1) y (by simpa using hy)
   exact ⟨fs, k1, fun j e he => by rw [← k2 j e he]; congr 2; rw [Nat.add_mul]; omega⟩
  have hl : es.length = Enc.n α := by rw [h1.1]; exact Enc.len x
  refine ⟨es ++ us, by rw [List.map_cons, List.flatten_cons]; exact h1.append h3, fun j u hu => ?_⟩
  by_cases hj : j < es.length
  ·rw [List.getElem?_append_left hj] at hu
   rw [← h2 j u hu]; congr 2; omega
  ·rw [List.getElem?_append_right (by omega)] at hu
   rw [← h4 _ u hu]; congr 2; omega
theorem OpensE.slice {α : Type} [Enc α] [o : OpensE P e α] (h : yl P t e = true) (hpos : 1 ≤ Enc.n α) : OpensE P t (List α) where
 n := (ubu h).2
 op {H enc w base spare held fuel cs x} hx := by
  rcases Deep.open_slice (ubu h).1 hx with ⟨rfl, _⟩ | ⟨a, len, cap, m, n, D, Pl, rfl, hb, hl, hm, hmm, _, hel⟩
  ·refine ⟨[], Rs.single ?_⟩
   exact R.mk_list (rows := []) (sz := 1) (us := []) (Nat.le_refl _) (Nat.zero_le _) (Nat.le_refl _) (by simp) (by simp) Rs.nil (.inl rfl) (by simp) (by simp) (by simp)
  ·have hlm : len ≤ m := by rw [hmm]; split <;> omega
   have hs : 0 < len → a.spot = none := fun h0 => by
    obtain ⟨cs', hc, ht⟩ := hel 0 (by omega)
    obtain ⟨_, hlen, hcell⟩ := World.cells?_some hc
    rw [o.n] at hlen hcell
    have := hcell 0 (by omega)
    rw [List.getElem?_eq_getElem (by omega)] at this
    have := uhp this
    simpa [Addr.add] using this
   obtain ⟨xs, h1, h2⟩ := udy (p := fun i (y : α) => ∃ es, Rs (j0 w) w (cells y) es ∧ ∀ j e, es[j]? = some e → w.cell? ⟨a.block, a.off + i * Enc.n α + j, none⟩ = some e) len fun i hi => by
    obtain ⟨cs', hc, ht⟩ := hel i (by omega)
    obtain ⟨y, hy⟩ := o.op ht
    obtain ⟨_, hlen, hcell⟩ := World.cells?_some hc
    rw [o.n] at hlen hcell hc
    have hs' := hs (by omega)
    refine ⟨y, cs', hy, fun j u hj => ?_⟩
    have hj' : j < Enc.n α := by rw [← hlen]; exact (List.getElem?_eq_some_iff.1 hj).1
    have := hcell j hj'
    rw [hj] at this
    rw [← this]
    obtain ⟨ab, ao, asp⟩ := a
    dsimp only at hs'
    subst hs'
    rw [r9, r9]
   subst h1
   refine ⟨xs, Rs.single ?_⟩
   obtain ⟨us, k1, k2⟩ := ub7 (E := j0 w) (w := w) (b := a.block) xs a.off h2
   have := R.mk_list (E := j0 w) (w := w) (rows := xs.map cells) (a := some a) (cap := cap) (sz := Enc.n α) (us := us) (tok := .none) (by simpa using hl) hm hpos (me xs) (fun r hr c hc => by
    obtain ⟨x, _, rfl⟩ := List.mem_map.1 hr
    exact Enc.one x c hc) k1 (by
    by_cases hxs : xs = []
    ·subst hxs; exact .inl rfl
    ·right
     have hs' := hs (List.length_pos_iff.2 hxs)
     obtain ⟨ab, ao, asp⟩ := a
     dsimp only at hs'
     subst hs'
     refine ⟨ab, ao, rfl, ?_, k2⟩
     have h0 : 0 < us.length := by
      rw [k1.1, n2 (me xs), List.length_map]
      exact Nat.mul_pos (List.length_pos_iff.2 hxs) hpos
     have := ufd (k2 (us.length - 1) _ (List.getElem?_eq_getElem (by omega)))
     dsimp only at this
     show ao + us.length ≤ ql w ab
     omega) (by simp) (by simp) (by simp)
   rw [List.length_map] at this
   exact this
theorem ubo {l : List (Nat × TypeId × Nat)} {n : Nat} (h : jr P t l n = true) {H : Type} {enc : TypeId × Value → H} {w : World} {base : Nat} {spare : Nat → Bool} {held : Bool} {fuel : Nat} {cs : List Value} {x : DataW H × List MemPlace}
  (hx : DataW.trod enc P w base spare held fuel t cs = some x) : cs.length = n ∧ ∀ p ∈ l, ∃ m y, DataW.trod enc P w base spare held m p.2.1 ((cs.drop p.1).take p.2.2) = some y := by
 unfold jr at h
 split at h
 ·rename_i fs he
  simp only [Bool.and_eq_true, beq_iff_eq] at h
  obtain ⟨xs, m, _, _, hl, hlen, hf⟩ := DataW.trod_struct he hx
  refine ⟨by rw [hl, h.2], fun p hp => ?_⟩
  rw [← h.1] at hp
  obtain ⟨f, hfm, rfl⟩ := List.mem_map.1 hp
  obtain ⟨i, hi⟩ := List.getElem?_of_mem hfm
  have hi' : fs[i]? = some f := by simpa using hi
  have hlt : i < xs.length := by rw [hlen]; exact (Array.getElem?_eq_some_iff.1 hi').1
  exact ⟨m, xs[i], by rw [← List.getElem?_eq_getElem hlt]; exact hf i f hi'⟩
 ·cases h
theorem u6 {l : List (Nat × TypeId × Nat)} {n : Nat} (h : jr P t l n = true) : P.cellsOf t = n ∧ ∃ fs, P.underlying t = some (.struct fs) := by
 unfold jr at h
 split at h
 ·rename_i fs he
  simp only [Bool.and_eq_true, beq_iff_eq] at h
  exact ⟨h.2, fs, he⟩
 ·cases h
/-- A struct of one field. -/
theorem OpensE.one {α : Type} [Enc α] [o : OpensE P e α] (h : jr P t [(0, e, Enc.n α)] (Enc.n α) = true) : OpensE P t α where
 n := (u6 h).1
 op {H enc w base spare held fuel cs x} hx := by
  obtain ⟨hl, hp⟩ := ubo h hx
  obtain ⟨m, y, hy⟩ := hp _ (List.mem_cons_self ..)
  obtain ⟨a, ha⟩ := o.op hy
  dsimp only at ha
  rw [List.drop_zero, List.take_of_length_le (by omega)] at ha
  exact ⟨a, ha⟩
/-- A struct, field by field. -/
theorem OpensE.struct {α : Type} [Enc α] {l : List (Nat × TypeId × Nat)} (h : jr P t l (Enc.n α) = true)
  (b : ∀ (w : World) (cs : List Value), cs.length = Enc.n α → (∀ p ∈ l, ∀ (β : Type) (_ : Enc β), OpensE P p.2.1 β → ∃ a : β, Rs (j0 w) w (cells a) ((cs.drop p.1).take p.2.2)) → ∃ a : α, Rs (j0 w) w (cells a) cs) : OpensE P t α where
 n := (u6 h).1
 op {H enc w base spare held fuel cs x} hx := by
  obtain ⟨hl, hp⟩ := ubo h hx
  exact b w cs hl fun p hpl β _ o => let ⟨_, _, hy⟩ := hp p hpl; o.op hy
theorem OpensE.chap {tI tL : TypeId} [oI : OpensE P tI Int] [oL : OpensE P tL (List (List ByteArray))] (h : jr P t [(0, tI, 1), (1, tL, 1)] 2 = true) : OpensE P t az :=
 .struct (α := az) h fun w cs hl hp => by
  obtain ⟨a, ha⟩ := hp (0, tI, 1) (by simp) Int inferInstance oI
  obtain ⟨b, hb⟩ := hp (1, tL, 1) (by simp) (List (List ByteArray)) inferInstance oL
  match cs, hl with
  | [u, v], _ => exact ⟨⟨a, b⟩, Rs.cons (Rs.single_inv ha) hb⟩
theorem OpensE.place {tI : TypeId} [oI : OpensE P tI Int] (h : jr P t [(0, tI, 1), (1, tI, 1), (2, tI, 1)] 3 = true) : OpensE P t PlaceD :=
 .struct (α := PlaceD) h fun w cs hl hp => by
  obtain ⟨a, ha⟩ := hp (0, tI, 1) (by simp) Int inferInstance oI
  obtain ⟨b, hb⟩ := hp (1, tI, 1) (by simp) Int inferInstance oI
  obtain ⟨c, hc⟩ := hp (2, tI, 1) (by simp) Int inferInstance oI
  match cs, hl with
  | [u, v, x], _ => exact ⟨⟨a, b, c⟩, Rs.cons (Rs.single_inv ha) (Rs.cons (Rs.single_inv hb) hc)⟩
/-- An argument that is a struct; a number. -/
theorem OpensE.arg {α : Type} [Enc α] [o : OpensE P t α] {l : List (Nat × TypeId × Nat)} {n : Nat} (h : jr P t l n = true) {H : Type} {enc : TypeId × Value → H} {w : World} {base : Nat} {spare : Nat → Bool} {held : Bool} {r : Reach} {b0 : Nat} {v : Value} {d : DataW H} {ps : List MemPlace}
  (hv : Value.okWide P w r b0 t v) (hd : DataW.Trod enc P w base spare held t v d ps) : ∃ a : α, R (j0 w) w (.agg (cells a)) v := by
 obtain ⟨fs, hs⟩ := (u6 h).2
 obtain ⟨cs, rfl, _⟩ := okWide_struct hs hv
 obtain ⟨fuel, hf⟩ := hd
 obtain ⟨a, ha⟩ := o.op hf
 exact ⟨a, by simpa [Value.cells] using Rs.agg ha (Enc.one a)⟩
theorem OpensE.argInt (h : t6 P t .i64 = true) {H : Type} {enc : TypeId × Value → H} {w : World} {base : Nat} {spare : Nat → Bool} {held : Bool} {r : Reach} {b0 : Nat} {v : Value} {d : DataW H} {ps : List MemPlace}
  (hv : Value.okWide P w r b0 t v) (hd : DataW.Trod enc P w base spare held t v d ps) : ∃ a : Int, R (j0 w) w (.v (.int .i64 a)) v := by
 obtain ⟨i, rfl, _, _, wi⟩ := open_int (zx h).1 hv hd
 exact ⟨i, .v (ubd wi)⟩
end
theorem ulr {P : Program} {f : FuncId} {cs : List C} {v fv : Value} {fc : C} (hp : PureF (.fact fv fc) P f cs (.v v)) {w : World} {args : List Value} (hF : R (j0 w) w fc fv) (hr : Rs (j0 w) w cs args) :
  Calls P f args.toArray w fun e w' => e = .returned v ∧ Below w.heap.size w w' := by
 obtain ⟨E1, v1, g1⟩ := uer (unq w) hF
 refine (hp _ _ (jt _ _ _) E1 w args (hr.ev v1) g1).mono ?_
 rintro e w' ⟨r, x, E', G', nx', rfl, hev, hx, _, rfl, _⟩
 exact ⟨by rw [hx.v_inv], by have := hev.below; rw [v1.B] at this; exact this⟩
end Go.AB
namespace Go.AB
open Go Go.RowKit Go.ChangeShapes Go.WideShapes
open Go.AB.Enc (cells)
variable {P : Program} {o : Oper} {st : St}
end Go.AB
namespace Go.AB
open Go Go.RowKit
open Go.AB.Enc (cells)
variable {P : Program} {o : Oper} {st : St}
theorem we {xt yt : TypeId} {x y : Operand} {m n : Int} (ho : o.op = .binOp .mul xt x y yt) (hx : evC st x = .v (.int .i64 m)) (hy : evC st y = .v (.int .i64 n)) (hb : -9223372036854775808 ≤ m * n ∧ m * n ≤ 9223372036854775807) : NStep P o st (.v (.int .i64 (m * n))) :=
 l4 ho hx hy (kz hb) fun w => by
  have : IntKind.i64.wrap (m * n) = m * n := by rw [IntKind.wrap_i64]; omega
  simp [eqGuard, binOp, Op.intArith, this]
theorem zj {xt yt : TypeId} {x y : Operand} {m n : Int} (ho : o.op = .binOp .quo xt x y yt) (hx : evC st x = .v (.int .i64 m)) (hy : evC st y = .v (.int .i64 n)) (hm : 0 ≤ m ∧ m ≤ 9223372036854775807) (hn : 0 < n) : NStep P o st (.v (.int .i64 (m / n))) := by
 have h3 : 0 ≤ m / n := Int.ediv_nonneg hm.1 (by omega)
 have h4 : m / n ≤ m := Int.ediv_le_self _ hm.1
 exact l4 ho hx hy (kz (by omega)) fun w => by
  have h1 : ¬ n = 0 := by omega
  have h2 : m.tdiv n = m / n := Int.tdiv_eq_ediv_of_nonneg hm.1
  have h5 : IntKind.i64.wrap (m / n) = m / n := by rw [IntKind.wrap_i64]; omega
  simp [eqGuard, binOp, Op.intDiv, h1, h2, h5]
theorem ug5 {n : Nat} (h : n ≤ 62) : (2 : Int) ^ n ≤ 4611686018427387904 := by
 have : 2 ^ n ≤ 2 ^ 62 := Nat.pow_le_pow_right (by omega) h
 have h2 : ((2 ^ n : Nat) : Int) = (2 : Int) ^ n := by norm_cast
 rw [← h2]
 have h3 : (2 : Nat) ^ 62 = 4611686018427387904 := by decide
 omega
/-- one, shifted -/
theorem wc {xt yt : TypeId} {x y : Operand} {n : Nat} (ho : o.op = .binOp .shl xt x y yt) (hx : evC st x = .v (.int .i64 1)) (hy : evC st y = .v (.int .i64 (n : Int))) (hn : n ≤ 62) : NStep P o st (.v (.int .i64 ((2 ^ n : Nat) : Int))) := by
 have h0 := ug5 hn
 have h2 : ((2 ^ n : Nat) : Int) = (2 : Int) ^ n := by norm_cast
 have h1 : 0 ≤ ((2 ^ n : Nat) : Int) := Int.natCast_nonneg _
 exact l4 ho hx hy (kz (by omega)) fun w => by
  have e1 : ¬ ((n : Int) < 0) := by omega
  have e2 : min (n : Int).toNat IntKind.i64.bits = n := by rw [Int.toNat_natCast]; show min n 64 = n; omega
  have e3 : IntKind.i64.wrap (1 * 2 ^ n) = ((2 ^ n : Nat) : Int) := by rw [Int.one_mul, ← h2, IntKind.wrap_i64]; omega
  simp only [eqGuard, binOp, Op.shift, e1, if_false, e2, e3]
  rfl
/-- a number that is not below 0, shifted back -/
theorem re {xt yt : TypeId} {x y : Operand} {k : IntKind} {m n : Nat} (ho : o.op = .binOp .shr xt x y yt) (hx : evC st x = .v (.int k (m : Int))) (hy : evC st y = .v (.int .i64 (n : Int))) (hn : n ≤ k.bits) (hm : (m : Int) ≤ hiK k) (hk : loK k ≤ 0) : NStep P o st (.v (.int k ((m / 2 ^ n : Nat) : Int))) := by
 have h4 : m / 2 ^ n ≤ m := Nat.div_le_self _ _
 exact n_int' ho hx hy (okV_int.2 (by obtain ⟨q, hq⟩ : ∃ q, m / 2 ^ n = q := ⟨_, rfl⟩; rw [hq] at h4 ⊢; omega)) fun w => by
  have e1 : ¬ ((n : Int) < 0) := by omega
  have e2 : min (n : Int).toNat k.bits = n := by rw [Int.toNat_natCast]; omega
  have e3 : (m : Int).fdiv (2 ^ n) = ((m / 2 ^ n : Nat) : Int) := by
   have h2 : ((2 ^ n : Nat) : Int) = (2 : Int) ^ n := by norm_cast
   rw [← h2, Int.fdiv_eq_ediv_of_nonneg _ (Int.natCast_nonneg _)]
   norm_cast
  simp only [eqGuard, binOp, Op.shift, e1, if_false, e2, e3]
  rfl
where
 n_int' {op : BinOp} {xt yt : TypeId} {x y : Operand} {k k' : IntKind} {m n : Int} {r : Value} (ho : o.op = .binOp op xt x y yt) (hx : evC st x = .v (.int k m)) (hy : evC st y = .v (.int k' n))
  (h1 : okV r = true) (h : ∀ w, (do eqGuard op xt x y (.int k m) (.int k' n); binOp op xt (.int k m) (.int k' n)).run P w = .ok r w) : NStep P o st (.v r) := fun E w a hs => by
  have e1 := (hx ▸ hs.ev x).v_inv
  have e2 := (hy ▸ hs.ev y).v_inv
  refine ⟨r, .v h1, fun w' => ?_⟩
  have := h w'
  simp only [execOp, ho, e1, e2, Sem.run_bind] at this ⊢
  rw [this]
  rfl
/-- the last bit -/
theorem rg {xt yt : TypeId} {x y : Operand} {k : IntKind} {m : Nat} (ho : o.op = .binOp .and xt x y yt) (hx : evC st x = .v (.int k (m : Int))) (hy : evC st y = .v (.int k 1)) (hm : m < 2 ^ k.bits) (hb : 2 ≤ k.bits) : NStep P o st (.v (.int k ((m % 2 : Nat) : Int))) := by
 have h2 : m % 2 < 2 := Nat.mod_lt _ (by omega)
 exact l4 ho hx hy (okV_int.2 (by cases k <;> simp only [loK, hiK] <;> omega)) fun w => by
  have e1 : (BitVec.ofInt k.bits (m : Int) &&& BitVec.ofInt k.bits 1).toNat = m % 2 := by
   have q1 : (BitVec.ofInt k.bits (m : Int)).toNat = m := by
    rw [show BitVec.ofInt k.bits (m : Int) = BitVec.ofNat k.bits m from BitVec.ofInt_natCast .., BitVec.toNat_ofNat, Nat.mod_eq_of_lt hm]
   have q2 : (BitVec.ofInt k.bits 1).toNat = 1 := by
    rw [show BitVec.ofInt k.bits 1 = BitVec.ofNat k.bits 1 from BitVec.ofInt_natCast k.bits 1, BitVec.toNat_ofNat, Nat.mod_eq_of_lt]
    exact Nat.one_lt_two_pow (by omega)
   rw [BitVec.toNat_and, q1, q2, Nat.and_one_is_mod]
  have e2 : k.wrap ((m % 2 : Nat) : Int) = ((m % 2 : Nat) : Int) := by
   have : m % 2 = 0 ∨ m % 2 = 1 := by omega
   rcases this with h | h <;> rw [h] <;> cases k <;> decide
  simp only [eqGuard, binOp, Op.intBits, e1, e2]
  simp
end Go.AB
namespace Go.AB
open Go Go.RowKit
open Go.AB.Enc (cells)
open Go.PB (az aj PlaceD bj bl bk bw av ai c6 cv dj di)
theorem ubs {t : aj} (ht : dq t = true) (k : Nat) : fu t k ≤ 60 := by
 obtain ⟨_, h2, h3⟩ := lu ht
 have key : ∀ j, j ≤ t.length → fu t j ≤ j * 10 := by
  intro j
  induction j with
  | zero => intro _; rw [ubr]; exact Nat.zero_le _
  | succ j ih =>
   intro hj
   have hc : t[j]? = some t[j] := List.getElem?_eq_getElem (by omega)
   rw [su hc]
   have := (h3 _ (List.mem_of_getElem? hc)).2.1
   have := ih (by omega)
   omega
 by_cases q : k ≤ t.length
 ·have := key k q; omega
 have h1 := key t.length (Nat.le_refl _)
 have e : fu t k = fu t t.length := by
  unfold fu
  rw [List.take_of_length_le (show t.length ≤ k by omega), List.take_of_length_le (Nat.le_refl _)]
 omega
instance decLtW : ∀ a b : List Int, Decidable (ltW a b)
 | [], _ => isFalse (by simp [ltW])
 | _ :: _, [] => isFalse (by simp [ltW])
 | x :: a, y :: b => by
  have := decLtW a b
  unfold ltW
  exact inferInstance
theorem unf {a b : List Int} (h : a.length = b.length) : ig a b = decide (ltW a b) := by
 rw [Bool.eq_iff_iff, uau, decide_eq_true_eq]
 exact ⟨fun k => k.elim (fun k => by omega) (fun k => k.2), fun k => .inr ⟨h, k⟩⟩
/-- lists that are the same so far, and then not -/
theorem udu : ∀ {a b : List Int} {k : Nat} {x y : Int}, a.take k = b.take k → a[k]? = some x → b[k]? = some y → x ≠ y → (ltW a b ↔ x < y)
 | [], _, _, _, _, _, h, _, _ => by simp at h
 | _ :: _, [], _, _, _, _, _, h, _ => by simp at h
 | u :: a, v :: b, 0, x, y, _, h1, h2, hn => by
  simp only [List.getElem?_cons_zero, Option.some.injEq] at h1 h2
  subst h1; subst h2
  simp only [ltW]
  exact ⟨fun h => h.elim id (fun h => absurd h.1 hn), .inl⟩
 | u :: a, v :: b, k + 1, x, y, he, h1, h2, hn => by
  simp only [List.take_succ_cons, List.cons.injEq] at he
  obtain ⟨e1, e2⟩ := he
  subst e1
  have := udu e2 (by simpa using h1) (by simpa using h2) hn
  show (u < u ∨ u = u ∧ ltW a b) ↔ x < y
  rw [this]
  exact ⟨fun h => h.elim (fun h => absurd h (Int.lt_irrefl _)) (fun h => h.2), fun h => .inr ⟨rfl, h⟩⟩
end Go.AB
namespace Go.Proofs.YtbbdginipiljdaaGreatDoor
set_option maxRecDepth 10000
open Go.RowKit Go.AB
open Go.AB.Enc (cells)
open Go.PB (az aj PlaceD bj bl bk bw av ai c6 cv dj di)
theorem ph (n lo hi : Int) : Pure Tryz.prog 71 [.v (.int .i64 n), .v (.int .i64 lo), .v (.int .i64 hi)] (.v (.bool (inB n lo hi))) := by
 refine cw Tryz.func71 rfl (fun m => .v) fun G nx => ?_
 simp only [Tryz.ntmps71, List.length_cons, List.length_nil, Nat.reduceAdd, Nat.reduceSub]
 refine bx fun hlt => ?_
 dsimp only at hlt
 refine yS fun _ K1 => ?_
 refine yR ?_
 refine yA rfl rfl ?_
 refine yN ?_
 dsimp only [St.put]
 refine K1 _ ?_
 refine yS fun _ K2 => ?_
 refine yR ?_
 refine yM rfl rfl ?_
 refine yM rfl rfl ?_
 refine aa rfl (l5 rfl rfl rfl) ?_
 refine ei (fun hs => ?_) (fun hs => ?_)
 ·try replace hs := of_decide_eq_true hs
  refine yM rfl rfl ?_
  refine yM rfl rfl ?_
  refine yM rfl rfl ?_
  refine aa rfl (wh rfl rfl rfl) ?_
  refine aa rfl (cy rfl rfl (by constructor)) ?_
  refine yA rfl rfl ?_
  refine yN ?_
  dsimp only [St.put]
  refine K2 _ ?_
  refine aq ?_
  refine bh rfl (by constructor) zN zS ?_
  exact vb (by simp [inB, hs]; try omega)
 try replace hs := of_decide_eq_false hs
 refine yM rfl rfl ?_
 refine yK rfl ?_
 refine yK rfl ?_
 refine yK rfl ?_
 refine aa rfl (cm rfl rfl (by constructor)) ?_
 refine yA rfl rfl ?_
 refine yN ?_
 dsimp only [St.put]
 refine K2 _ ?_
 refine aq ?_
 refine bh rfl (by constructor) zN zS ?_
 exact vb (by simp [inB, hs]; try omega)
theorem ui5 (t : aj) (ht : dq t = true) : Pure Tryz.prog 107 [fa t] (.v (.int .i64 (mu t : Int))) := by
 refine cw Tryz.func107 rfl (fun m => .v) fun G nx => ?_
 simp only [Tryz.ntmps107, List.length_cons, List.length_nil, Nat.reduceAdd, Nat.reduceSub]
 refine bx fun hlt => ?_
 dsimp only at hlt
 obtain ⟨hl1, hl2, hl3⟩ := lu ht
 refine yS fun _ K1 => ?_
 refine yR ?_
 try dsimp only [St.put]
 refine yB rfl rfl rfl ?_
 refine yA rfl rfl ?_
 refine yN ?_
 dsimp only [St.put]
 refine K1 _ ?_
 refine yS fun _ K2 => ?_
 refine yR ?_
 refine yA rfl rfl ?_
 refine yN ?_
 dsimp only [St.put]
 refine K2 _ ?_
 refine yS fun _ K3 => ?_
 refine yS fun _ K4 => ?_
 refine yR ?_
 refine yA rfl rfl ?_
 refine yN ?_
 dsimp only [St.put]
 refine K4 _ ?_
 refine ay ?_
 refine ci 5 ?_
 refine zQ ?_
 refine c4 (G) zX ?_
 dsimp only
 refine cz (X := Nat) (fun k => k ≤ t.length) (fun k => t.length - k) (fun k => [(3, .v (.int .i64 ((fu t k : Nat) : Int))), (4, .v (.int .i64 (k : Int)))]) (fun k G' => G') 0 rfl ?_ ?_ (fun _ _ h => h) ?_ ?_ ?_
 ·exact Nat.zero_le _
 ·exact zF
 ·rintro k hI
  exact zL
 ·exact fun _ _ _ _ h => .inl h
 rintro k hI
 dsimp only at hI ⊢
 refine yS fun _ K5 => ?_
 refine yS fun _ K6 => ?_
 refine yR ?_
 refine yM rfl rfl ?_
 refine yF rfl rfl rfl rfl ?_
 refine yL rfl rfl rfl ?_
 refine aa rfl (bg rfl rfl (List.length_map _)) ?_
 refine aa rfl (cg rfl rfl rfl) ?_
 refine yN ?_
 dsimp only [St.put]
 refine K6 _ ?_
 refine am rfl (fun hc => ?_) (fun hc => ?_)
 ·replace hc := of_decide_eq_true hc
  obtain ⟨c, hk⟩ : ∃ x, t[k]? = some x := da (by omega)
  have hcl := hl3 c (fg hk)
  have hst := ubs ht k
  refine aw ?_
  refine K5 _ ?_
  refine yS fun _ K7 => ?_
  refine ay ?_
  refine yR ?_
  refine yM rfl rfl ?_
  refine yF rfl rfl rfl rfl ?_
  refine yL rfl rfl rfl ?_
  refine yM rfl rfl ?_
  refine aa rfl (bn rfl rfl rfl rfl (bi (by assumption)) (Enc.len _)) ?_
  refine yF rfl rfl rfl rfl ?_
  refine yL rfl rfl rfl ?_
  refine aa rfl (bg rfl rfl (List.length_map _)) ?_
  refine aa rfl (bp rfl rfl rfl (by omega)) ?_
  refine yA rfl rfl ?_
  refine yN ?_
  dsimp only [St.put]
  refine K7 _ ?_
  refine yR ?_
  refine yM rfl rfl ?_
  refine aa rfl (bp rfl rfl rfl (by omega)) ?_
  refine yA rfl rfl ?_
  refine yN ?_
  dsimp only [St.put]
  have e := su hk
  rw [show ((fu t k : Nat) : Int) + (c.lines.length : Int) = ((fu t (k + 1) : Nat) : Int) by rw [e]; rfl]
  exact ⟨k + 1, by omega, by omega, ⟨⟨rfl, rfl⟩, zF, zB, zN, zX⟩⟩
 replace hc := of_decide_eq_false hc
 obtain rfl : k = t.length := by omega
 refine cr ?_
 refine K3 _ ?_
 refine yS fun _ K8 => ?_
 refine yR ?_
 refine yM rfl rfl ?_
 refine yA rfl rfl ?_
 refine yN ?_
 dsimp only [St.put]
 refine K8 _ ?_
 refine aq ?_
 refine bh rfl (by constructor) zN zS ?_
 rfl
theorem y4 (t : aj) (q : PlaceD) (ht : dq t = true) (hq : fm t q = true) : Pure Tryz.prog 25 [fa t, val q] (.v (.int .i64 (qi t q))) := by
 refine cw Tryz.func25 rfl (fun m => .v) fun G nx => ?_
 simp only [Tryz.ntmps25, List.length_cons, List.length_nil, Nat.reduceAdd, Nat.reduceSub]
 refine bx fun hlt => ?_
 dsimp only at hlt
 obtain ⟨hl1, hl2, hl3⟩ := lu ht
 obtain ⟨kc, kn, kw, c0, l0, hqe, hkc, hkn, _⟩ := ucp hq
 have hkcl := (List.getElem?_eq_some_iff.1 hkc).1
 have hknl := (List.getElem?_eq_some_iff.1 hkn).1
 have hc0 := (hl3 c0 (fg hkc)).2.1
 subst hqe
 refine yS fun _ K1 => ?_
 refine yR ?_
 try dsimp only [St.put]
 refine yB rfl rfl rfl ?_
 try dsimp only [St.put]
 refine yB rfl rfl rfl ?_
 refine yA rfl rfl ?_
 refine yN ?_
 dsimp only [St.put]
 refine K1 _ ?_
 refine yS fun _ K2 => ?_
 refine yR ?_
 refine yF rfl rfl rfl rfl ?_
 refine yL rfl rfl rfl ?_
 refine yA rfl rfl ?_
 refine yN ?_
 dsimp only [St.put]
 refine K2 _ ?_
 refine yS fun _ K3 => ?_
 refine yS fun _ K4 => ?_
 refine yR ?_
 refine yA rfl rfl ?_
 refine yN ?_
 dsimp only [St.put]
 refine K4 _ ?_
 refine ay ?_
 refine ci 7 ?_
 refine zQ ?_
 refine c4 (G) zX ?_
 dsimp only
 refine cz (X := Nat) (fun k => k ≤ kc) (fun k => kc - k) (fun k => [(5, .v (.int .i64 ((kn : Int) + ((fu t k : Nat) : Int)))), (6, .v (.int .i64 (k : Int)))]) (fun k G' => G') 0 rfl ?_ ?_ (fun _ _ h => h) ?_ ?_ ?_
 ·exact Nat.zero_le _
 ·exact zF
 ·rintro k hI
  exact zL
 ·exact fun _ _ _ _ h => .inl h
 rintro k hI
 dsimp only at hI ⊢
 refine yS fun _ K5 => ?_
 refine yS fun _ K6 => ?_
 refine yR ?_
 refine yM rfl rfl ?_
 refine yF rfl rfl rfl rfl ?_
 refine yL rfl rfl rfl ?_
 refine aa rfl (cg rfl rfl rfl) ?_
 refine yN ?_
 dsimp only [St.put]
 refine K6 _ ?_
 refine am rfl (fun hc => ?_) (fun hc => ?_)
 ·replace hc := of_decide_eq_true hc
  obtain ⟨c, hk⟩ : ∃ x, t[k]? = some x := da (by omega)
  have hcl := hl3 c (fg hk)
  have hst := ubs ht k
  refine aw ?_
  refine K5 _ ?_
  refine yS fun _ K7 => ?_
  refine ay ?_
  refine yR ?_
  refine yM rfl rfl ?_
  refine yF rfl rfl rfl rfl ?_
  refine yL rfl rfl rfl ?_
  refine yM rfl rfl ?_
  refine aa rfl (bn rfl rfl rfl rfl (bi (by assumption)) (Enc.len _)) ?_
  refine yF rfl rfl rfl rfl ?_
  refine yL rfl rfl rfl ?_
  refine aa rfl (bg rfl rfl (List.length_map _)) ?_
  refine aa rfl (bp rfl rfl rfl (by omega)) ?_
  refine yA rfl rfl ?_
  refine yN ?_
  dsimp only [St.put]
  refine K7 _ ?_
  refine yR ?_
  refine yM rfl rfl ?_
  refine aa rfl (bp rfl rfl rfl (by omega)) ?_
  refine yA rfl rfl ?_
  refine yN ?_
  dsimp only [St.put]
  have e := su hk
  rw [show (kn : Int) + ((fu t k : Nat) : Int) + (c.lines.length : Int) = (kn : Int) + ((fu t (k + 1) : Nat) : Int) by rw [e, Int.natCast_add]; omega]
  exact ⟨k + 1, by omega, by omega, ⟨⟨rfl, rfl⟩, zF, zB, zN, zX⟩⟩
 replace hc := of_decide_eq_false hc
 obtain rfl : k = kc := by omega
 refine cr ?_
 refine K3 _ ?_
 refine yS fun _ K8 => ?_
 refine yR ?_
 refine yM rfl rfl ?_
 refine yA rfl rfl ?_
 refine yN ?_
 dsimp only [St.put]
 refine K8 _ ?_
 refine aq ?_
 refine bh rfl (by constructor) zN zS ?_
 exact vi (by unfold qi; rw [Int.toNat_natCast])
theorem ucf (l : List PlaceD) (q : PlaceD) (hl : l.length ≤ 1000) : Pure Tryz.prog 95 [lst l, val q] (.v (.bool (decide (q ∈ l)))) := by
 refine cw Tryz.func95 rfl (fun m => .v) fun G nx => ?_
 simp only [Tryz.ntmps95, List.length_cons, List.length_nil, Nat.reduceAdd, Nat.reduceSub]
 refine bx fun hlt => ?_
 dsimp only at hlt
 refine yS fun _ K1 => ?_
 refine yR ?_
 try dsimp only [St.put]
 refine yB rfl rfl rfl ?_
 refine yA rfl rfl ?_
 refine yN ?_
 dsimp only [St.put]
 refine K1 _ ?_
 refine yS fun _ K2 => ?_
 refine yS fun _ K3 => ?_
 refine yR ?_
 refine yA rfl rfl ?_
 refine yN ?_
 dsimp only [St.put]
 refine K3 _ ?_
 refine ay ?_
 refine ci 6 ?_
 refine zQ ?_
 refine c4 (G) zX ?_
 dsimp only
 refine cz (X := Nat) (fun k => k ≤ l.length ∧ ∀ y ∈ l.take k, y ≠ q) (fun k => l.length - k) (fun k => [(5, .v (.int .i64 (k : Int)))]) (fun k G' => G') 0 rfl ?_ ?_ (fun _ _ h => h) ?_ ?_ ?_
 ·exact ⟨Nat.zero_le _, by simp⟩
 ·exact zF
 ·rintro k hI
  exact zL
 ·exact fun _ _ _ _ h => .inl h
 rintro k hI
 dsimp only at hI ⊢
 refine yS fun _ K4 => ?_
 refine yS fun _ K5 => ?_
 refine yR ?_
 refine yM rfl rfl ?_
 refine yM rfl rfl ?_
 refine aa rfl (bg rfl rfl (List.length_map _)) ?_
 refine aa rfl (cg rfl rfl rfl) ?_
 refine yN ?_
 dsimp only [St.put]
 refine K5 _ ?_
 refine am rfl (fun hc => ?_) (fun hc => ?_)
 ·replace hc := of_decide_eq_true hc
  obtain ⟨y, hy⟩ : ∃ y, l[k]? = some y := da (by omega)
  refine aw ?_
  refine K4 _ ?_
  refine yS fun _ K6 => ?_
  refine ay ?_
  refine yS fun _ K7 => ?_
  refine et [(0, none), (1, none), (2, none), (3, none), (4, none), (5, none)] (fun i => [].contains i) (fun i => [].contains i) (fun i => [0, 1, 2, 5].contains i) [] (by kernel_rfl) (by kernel_rfl) ?_
  refine xM rfl rfl rfl rfl rfl ?_
  refine xM rfl rfl rfl rfl rfl ?_
  try dsimp only [St.put]
  refine af rfl rfl rfl rfl (bn rfl rfl rfl rfl (bi (by assumption)) (Enc.len _)) ?_
  try dsimp only [St.put]
  refine ar rfl rfl rfl rfl (dw rfl rfl (Enc.len _)) ?_
  try dsimp only [St.put]
  refine ar rfl rfl rfl rfl (dw rfl rfl (Enc.len _)) ?_
  refine af rfl rfl rfl rfl (ukx (x := y) (y := q) rfl rfl rfl) ?_
  refine ce ?_
  dsimp only [St.put]
  refine K7 _ ?_
  refine am rfl (fun hc => ?_) (fun hc => ?_)
  ·have he : y = q := of_decide_eq_true hc
   refine yS fun _ K8 => ?_
   refine yR ?_
   refine yA rfl rfl ?_
   refine yN ?_
   dsimp only [St.put]
   refine K8 _ ?_
   refine aq ?_
   refine bh rfl (by constructor) zN zS ?_
   exact vb (decide_eq_true (he ▸ fg hy)).symm
  have hne : y ≠ q := of_decide_eq_false hc
  refine aw ?_
  refine K6 _ ?_
  refine yR ?_
  refine yM rfl rfl ?_
  refine aa rfl (bp rfl rfl rfl (by omega)) ?_
  refine yA rfl rfl ?_
  refine yN ?_
  dsimp only [St.put]
  exact ⟨k + 1, by omega, ⟨by omega, zp (p := fun y => y ≠ q) hy hne hI.2⟩, ⟨⟨rfl, rfl⟩, zF, zB, zN, zX⟩⟩
 replace hc := of_decide_eq_false hc
 refine cr ?_
 refine K2 _ ?_
 refine yS fun _ K9 => ?_
 refine yR ?_
 refine yA rfl rfl ?_
 refine yN ?_
 dsimp only [St.put]
 refine K9 _ ?_
 refine aq ?_
 refine bh rfl (by constructor) zN zS ?_
 exact vb (by
  have := hI.2
  rw [el (show l.length ≤ k by omega)] at this
  exact (decide_eq_false fun h => this q h rfl).symm)
theorem uje (a b : List Int) (ha : a.length ≤ 1000) : Pure Tryz.prog 19 [lst a, lst b] (.v (.bool (decide (a = b)))) := by
 refine cw Tryz.func19 rfl (fun m => .v) fun G nx => ?_
 simp only [Tryz.ntmps19, List.length_cons, List.length_nil, Nat.reduceAdd, Nat.reduceSub]
 refine bx fun hlt => ?_
 dsimp only at hlt
 refine jz 1 (fun hfb => ?_)
 have hb := (fit_lst.1 hfb).1
 refine yS fun _ K1 => ?_
 refine yR ?_
 refine yA rfl rfl ?_
 refine yN ?_
 dsimp only [St.put]
 refine K1 _ ?_
 refine yS fun _ K2 => ?_
 refine yS fun _ K3 => ?_
 refine yR ?_
 refine yM rfl rfl ?_
 refine aa rfl (bg rfl rfl (List.length_map _)) ?_
 refine yM rfl rfl ?_
 refine aa rfl (bg rfl rfl (List.length_map _)) ?_
 refine aa rfl (fl rfl rfl rfl) ?_
 refine yN ?_
 dsimp only [St.put]
 refine K3 _ ?_
 refine am rfl (fun hc => ?_) (fun hc => ?_)
 ·try replace hc := of_decide_eq_true hc
  refine yS fun _ K4 => ?_
  refine yR ?_
  refine yA rfl rfl ?_
  refine yN ?_
  dsimp only [St.put]
  refine K4 _ ?_
  refine aq ?_
  refine bh rfl (by constructor) zN zS ?_
  exact vb (by
   have : a ≠ b := fun e => by subst e; simp at hc
   simp [this])
 have hl : a.length = b.length := by
  have := gq hc
  omega
 refine aw ?_
 refine K2 _ ?_
 refine yS fun _ K5 => ?_
 refine yS fun _ K6 => ?_
 refine yR ?_
 refine yA rfl rfl ?_
 refine yN ?_
 dsimp only [St.put]
 refine K6 _ ?_
 refine ay ?_
 refine ci 6 ?_
 refine zQ ?_
 refine c4 (G) zX ?_
 dsimp only
 refine cz (X := Nat) (fun k => k ≤ a.length ∧ a.take k = b.take k) (fun k => a.length - k) (fun k => [(5, .v (.int .i64 (k : Int)))]) (fun k G' => G') 0 rfl ?_ ?_ (fun _ _ h => h) ?_ ?_ ?_
 ·exact ⟨Nat.zero_le _, by simp⟩
 ·exact zF
 ·rintro k hI
  exact zL
 ·exact fun _ _ _ _ h => .inl h
 rintro k hI
 dsimp only at hI ⊢
 refine yS fun _ K7 => ?_
 refine yS fun _ K8 => ?_
 refine yR ?_
 refine yM rfl rfl ?_
 refine yM rfl rfl ?_
 refine aa rfl (bg rfl rfl (List.length_map _)) ?_
 refine aa rfl (cg rfl rfl rfl) ?_
 refine yN ?_
 dsimp only [St.put]
 refine K8 _ ?_
 refine am rfl (fun hc => ?_) (fun hc => ?_)
 ·replace hc := of_decide_eq_true hc
  obtain ⟨x, hx⟩ : ∃ x, a[k]? = some x := da (by omega)
  obtain ⟨y, hy⟩ : ∃ y, b[k]? = some y := da (by omega)
  refine aw ?_
  refine K7 _ ?_
  refine yS fun _ K9 => ?_
  refine ay ?_
  refine yS fun _ K10 => ?_
  refine et [(0, none), (1, none), (2, none), (3, none), (4, none), (5, none), (6, none), (7, none), (8, none)] (fun i => [].contains i) (fun i => [].contains i) (fun i => [0, 1, 2, 4, 5, 6, 8].contains i) [] (by kernel_rfl) (by kernel_rfl) ?_
  refine xM rfl rfl rfl rfl rfl ?_
  refine xM rfl rfl rfl rfl rfl ?_
  try dsimp only [St.put]
  refine af rfl rfl rfl rfl (bn rfl rfl rfl rfl (bi (by assumption)) (Enc.len _)) ?_
  try dsimp only [St.put]
  refine ar rfl rfl rfl rfl (br rfl rfl) ?_
  refine xM rfl rfl rfl rfl rfl ?_
  refine xM rfl rfl rfl rfl rfl ?_
  try dsimp only [St.put]
  refine af rfl rfl rfl rfl (bn rfl rfl rfl rfl (bi (by assumption)) (Enc.len _)) ?_
  try dsimp only [St.put]
  refine ar rfl rfl rfl rfl (br rfl rfl) ?_
  refine af rfl rfl rfl rfl (fl rfl rfl rfl) ?_
  refine ce ?_
  dsimp only [St.put]
  refine K10 _ ?_
  refine am rfl (fun hc => ?_) (fun hc => ?_)
  ·have hxy := je hc
   refine yS fun _ K11 => ?_
   refine yR ?_
   refine yA rfl rfl ?_
   refine yN ?_
   dsimp only [St.put]
   refine K11 _ ?_
   refine aq ?_
   refine bh rfl (by constructor) zN zS ?_
   exact vb (by simp [qd hx hy hxy])
  have hxy := gq hc
  refine aw ?_
  refine K9 _ ?_
  refine yR ?_
  refine yM rfl rfl ?_
  refine aa rfl (bp rfl rfl rfl (by omega)) ?_
  refine yA rfl rfl ?_
  refine yN ?_
  dsimp only [St.put]
  exact ⟨k + 1, by omega, ⟨by omega, qs hI.2 hx (hxy ▸ hy)⟩, ⟨⟨rfl, rfl⟩, zF, zB, zN, zX⟩⟩
 replace hc := of_decide_eq_false hc
 refine cr ?_
 refine K5 _ ?_
 refine yS fun _ K12 => ?_
 refine yR ?_
 refine yA rfl rfl ?_
 refine yN ?_
 dsimp only [St.put]
 refine K12 _ ?_
 refine aq ?_
 refine bh rfl (by constructor) zN zS ?_
 exact vb (by
  have h1 := hI.2
  rw [el (by omega), el (by omega)] at h1
  simp [h1])
end Go.Proofs.YtbbdginipiljdaaGreatDoor
namespace Go.AB
open Go Go.RowKit
open Go.AB.Enc (cells)
open Go.PB (az aj PlaceD bj bl bk bw av ai c6 cv dj di)
theorem ua7 {t : aj} {x : av} {i : Nat} {q : PlaceD} (h : (dn t)[i]? = some q) : f4 t x ((dn t).take (i + 1)) = f4 t x ((dn t).take i) + bif fk t x q then 1 else 0 := by
 unfold f4
 rw [List.take_add_one, h, Option.toList_some, List.filter_append, List.length_append]
 cases hf : fk t x q <;> simp [hf]
def jm (x : av) (b : Bool) (q : PlaceD) : Bool := bif b then decide (q ∈ x.found) && decide (q ∈ x.well) else decide (q ∈ x.found) || decide (q ∈ x.well)
/-- what is found, among the first places -/
def n1 (t : aj) (x : av) (b : Bool) (i : Nat) : List PlaceD := ((dn t).take i).filter (jm x b)
theorem ueg {t : aj} {x : av} {b : Bool} {i : Nat} {q : PlaceD} (h : (dn t)[i]? = some q) : n1 t x b (i + 1) = n1 t x b i ++ bif jm x b q then [q] else [] := by
 unfold n1
 rw [List.take_add_one, h, Option.toList_some, List.filter_append]
 cases hf : jm x b q <;> simp [hf]
theorem ul3 (t : aj) (x : av) (b : Bool) : n1 t x b (dn t).length = bif b then er t x else eb t x := by
 unfold n1
 rw [List.take_length]
 cases b <;> rfl
theorem ul2 (t : aj) (x : av) (b : Bool) (i : Nat) : (n1 t x b i).length ≤ (dn t).length := by
 unfold n1
 have := List.length_filter_le (jm x b) ((dn t).take i)
 rw [List.length_take] at this
 omega
theorem bit_eq {s k : Nat} : (((s / 2 ^ k % 2 : Nat) : Int) = 1) ↔ s.testBit k = true := by
 rw [Nat.testBit_eq_decide_div_mod_eq, decide_eq_true_eq]
 omega
end Go.AB
namespace Go.Proofs.YtbbdginipiljdaaGreatDoor
set_option maxRecDepth 10000
open Go.RowKit Go.AB
open Go.AB.Enc (cells)
open Go.PB (az aj PlaceD bj bl bk bw av ai c6 cv dj di)
theorem ui4 (s n : Nat) (hs : s ≤ 1000) (hn : n ≤ 12) : Pure Tryz.prog 58 [.v (.int .i64 (s : Int)), .v (.int .i64 (n : Int))] (lst (ef n s)) := by
 refine cw Tryz.func58 rfl (fun m => (cc _ _)) fun G nx => ?_
 simp only [Tryz.ntmps58, List.length_cons, List.length_nil, Nat.reduceAdd, Nat.reduceSub]
 refine bx fun hlt => ?_
 dsimp only at hlt
 refine yS fun _ K1 => ?_
 refine yR ?_
 refine yA rfl rfl ?_
 refine yN ?_
 dsimp only [St.put]
 refine K1 _ ?_
 refine yS fun _ K2 => ?_
 refine yR ?_
 refine yA rfl rfl ?_
 refine yN ?_
 dsimp only [St.put]
 refine K2 _ ?_
 refine lk 5 3 1 rfl (by decide) ?_
 dsimp only [List.set_cons_zero, List.set_cons_succ]
 refine yS fun _ K3 => ?_
 refine yS fun _ K4 => ?_
 refine yR ?_
 refine yA rfl rfl ?_
 refine yN ?_
 dsimp only [St.put]
 refine K4 _ ?_
 refine ay ?_
 refine ci 7 ?_
 refine zQ ?_
 refine c4 ((ah G nx (.tip (ef 0 s).length 3 1))) zX ?_
 dsimp only
 refine cz (X := Nat) (fun k => k ≤ n) (fun k => n - k) (fun k => [(5, .list ((ef k s).map cells) (.tip nx)), (6, .v (.int .i64 (k : Int)))]) (fun k G' => (ah G nx (.tip (ef k s).length 3 1))) 0 rfl ?_ ?_ ?_ ?_ ?_ ?_
 ·exact Nat.zero_le _
 ·exact zF
 ·exact zX
 ·rintro k hI
  exact zL
 ·rintro k hI
  exact zH
 rintro k hI
 dsimp only at hI ⊢
 refine yS fun _ K5 => ?_
 refine yS fun _ K6 => ?_
 refine yR ?_
 refine yM rfl rfl ?_
 refine yM rfl rfl ?_
 refine aa rfl (cg rfl rfl rfl) ?_
 refine yN ?_
 dsimp only [St.put]
 refine K6 _ ?_
 refine am rfl (fun hc => ?_) (fun hc => ?_)
 ·replace hc := of_decide_eq_true hc
  have hml := rh k s
  refine aw ?_
  refine K5 _ ?_
  refine yS fun _ K7 => ?_
  refine ay ?_
  refine yS fun _ K8 => ?_
  refine yR ?_
  refine yM rfl rfl ?_
  refine yM rfl rfl ?_
  refine aa rfl (re (m := s) (n := k) rfl rfl rfl (by show k ≤ 64; omega) (by show (s : Int) ≤ 9223372036854775807; omega) (by decide)) ?_
  refine aa rfl (rg (m := s / 2 ^ k) rfl rfl rfl (Nat.lt_of_le_of_lt (Nat.div_le_self _ _) (by show s < 2 ^ 64; omega)) (by decide)) ?_
  refine aa rfl (j8 rfl rfl rfl) ?_
  refine yN ?_
  dsimp only [St.put]
  refine K8 _ ?_
  refine am rfl (fun hc => ?_) (fun hc => ?_)
  ·have hb : s.testBit k = true := bit_eq.1 (of_decide_eq_true hc)
   refine yR ?_
   refine yM rfl rfl ?_
   refine yM rfl rfl ?_
   try dsimp only [St.put]
   refine ae rfl (eg rfl rfl rfl (by decide) (by decide) zR (by decide) ?_)
   try dsimp only [St.put]
   refine ae rfl (ib ([(k : Int)]) rfl rfl zG zE rfl rfl zA ?_ zA)
   refine yA rfl rfl ?_
   refine yN ?_
   dsimp only [St.put]
   refine K7 _ ?_
   refine yR ?_
   refine yM rfl rfl ?_
   refine aa rfl (bp rfl rfl rfl (by omega)) ?_
   refine yA rfl rfl ?_
   refine yN ?_
   dsimp only [St.put]
   have e := wr k s
   first
   | (have q : s.testBit k = true := hb
      rw [q, cond_true] at e
      rw [← e]
      exact ⟨k + 1, by omega, by omega, ⟨⟨rfl, rfl⟩, zF, zB, zN, zX⟩⟩)
   | (have q : s.testBit k = false := hb
      rw [q, cond_false, List.append_nil] at e
      rw [← e]
      exact ⟨k + 1, by omega, by omega, ⟨⟨rfl, rfl⟩, zF, zB, zN, zX⟩⟩)
  have hb : s.testBit k = false := by
   have := of_decide_eq_false hc
   rw [bit_eq, Bool.not_eq_true] at this
   exact this
  refine aw ?_
  refine K7 _ ?_
  refine yR ?_
  refine yM rfl rfl ?_
  refine aa rfl (bp rfl rfl rfl (by omega)) ?_
  refine yA rfl rfl ?_
  refine yN ?_
  dsimp only [St.put]
  have e := wr k s
  first
  | (have q : s.testBit k = true := hb
     rw [q, cond_true] at e
     rw [← e]
     exact ⟨k + 1, by omega, by omega, ⟨⟨rfl, rfl⟩, zF, zB, zN, zX⟩⟩)
  | (have q : s.testBit k = false := hb
     rw [q, cond_false, List.append_nil] at e
     rw [← e]
     exact ⟨k + 1, by omega, by omega, ⟨⟨rfl, rfl⟩, zF, zB, zN, zX⟩⟩)
 replace hc := of_decide_eq_false hc
 obtain rfl : k = n := by omega
 refine cr ?_
 refine K3 _ ?_
 refine yS fun _ K9 => ?_
 refine yR ?_
 refine yM rfl rfl ?_
 refine yA rfl rfl ?_
 refine yN ?_
 dsimp only [St.put]
 refine K9 _ ?_
 refine aq ?_
 refine lj rfl (du (by constructor)) zN zS ?_
 exact zW
theorem ui2 (p : ai) (j : Nat) (x : av) (ht : dq p.text = true) (hx : p.pages[j]? = some x) : Pure Tryz.prog 73 [val p, .v (.int .i64 (j : Int))] (.v (.int .i64 (fj p.text x : Int))) := by
 refine cw Tryz.func73 rfl (fun m => .v) fun G nx => ?_
 simp only [Tryz.ntmps73, List.length_cons, List.length_nil, Nat.reduceAdd, Nat.reduceSub]
 refine bx fun hlt => ?_
 dsimp only at hlt
 have hal := n8 ht
 have hjl := (List.getElem?_eq_some_iff.1 hx).1
 refine yS fun _ K1 => ?_
 refine yR ?_
 try dsimp only [St.put]
 refine yB rfl rfl rfl ?_
 refine yA rfl rfl ?_
 refine yN ?_
 dsimp only [St.put]
 refine K1 _ ?_
 refine yS fun _ K2 => ?_
 refine yR ?_
 refine yA rfl rfl ?_
 refine yN ?_
 dsimp only [St.put]
 refine K2 _ ?_
 refine yS fun _ K3 => ?_
 refine yR ?_
 refine yF rfl rfl rfl rfl ?_
 try dsimp only [St.put]
 refine cb rfl (c := fa p.text) (i0 (cs := cells p) rfl rfl (show 1 ≤ 4 by decide)) ?_
 try dsimp only [St.put]
 refine ae rfl (ba rfl rfl rfl (uca p.text ht) ?_)
 refine yA rfl rfl ?_
 refine yN ?_
 dsimp only [St.put]
 refine K3 _ ?_
 refine yS fun _ K4 => ?_
 refine yS fun _ K5 => ?_
 refine yR ?_
 refine yA rfl rfl ?_
 refine yN ?_
 dsimp only [St.put]
 refine K5 _ ?_
 refine ay ?_
 refine ci 8 ?_
 refine zQ ?_
 refine c4 (G) zX ?_
 dsimp only
 refine cz (X := Nat) (fun i => i ≤ (dn p.text).length) (fun i => (dn p.text).length - i) (fun i => [(5, .v (.int .i64 ((f4 p.text x ((dn p.text).take i) : Nat) : Int))), (7, .v (.int .i64 (i : Int)))]) (fun i G' => G') 0 rfl ?_ ?_ (fun _ _ h => h) ?_ ?_ ?_
 ·exact Nat.zero_le _
 ·exact zF
 ·rintro i hI
  exact zL
 ·exact fun _ _ _ _ h => .inl h
 rintro i hI
 dsimp only at hI ⊢
 refine yS fun _ K6 => ?_
 refine yS fun _ K7 => ?_
 refine yR ?_
 refine yM rfl rfl ?_
 refine yM rfl rfl ?_
 refine aa rfl (bg rfl rfl (List.length_map _)) ?_
 refine aa rfl (cg rfl rfl rfl) ?_
 refine yN ?_
 dsimp only [St.put]
 refine K7 _ ?_
 refine am rfl (fun hc => ?_) (fun hc => ?_)
 ·replace hc := of_decide_eq_true hc
  obtain ⟨q, hq⟩ : ∃ q, (dn p.text)[i]? = some q := da (by omega)
  have hqp := allQ_mem.1 (List.mem_of_getElem? hq)
  have hwl : f4 p.text x ((dn p.text).take i) ≤ (dn p.text).length := by
   unfold f4
   have := List.length_filter_le (fk p.text x) ((dn p.text).take i)
   rw [List.length_take] at this
   omega
  refine aw ?_
  refine K6 _ ?_
  refine yS fun _ K8 => ?_
  refine ay ?_
  refine yS fun _ K9 => ?_
  refine et [(0, none), (1, none), (2, none), (3, none), (4, none), (5, none), (7, none), (8, none), (9, none), (10, none), (11, none), (12, none), (13, none), (14, none), (15, none), (16, none), (17, none), (18, none), (6, none), (19, none)] (fun i => [19].contains i) (fun i => [6, 19].contains i) (fun i => [0, 2, 3, 4, 7, 9, 10, 11, 13, 15, 16, 17].contains i) [] (by kernel_rfl) (by kernel_rfl) ?_
  refine af rfl rfl rfl rfl (cj rfl rfl rfl) ?_
  try dsimp only [St.put]
  refine ar rfl rfl rfl rfl (c := fa p.text) (i0 (cs := cells p) rfl rfl (show 1 ≤ 4 by decide)) ?_
  refine xM rfl rfl rfl rfl rfl ?_
  refine xM rfl rfl rfl rfl rfl ?_
  try dsimp only [St.put]
  refine af rfl rfl rfl rfl (bn rfl rfl rfl rfl (bi (by assumption)) (Enc.len _)) ?_
  try dsimp only [St.put]
  refine ar rfl rfl rfl rfl (dw rfl rfl (Enc.len _)) ?_
  refine af rfl rfl rfl rfl (cj rfl rfl rfl) ?_
  try dsimp only [St.put]
  refine ar rfl rfl rfl rfl (br rfl rfl) ?_
  refine xM rfl rfl rfl rfl rfl ?_
  try dsimp only [St.put]
  refine af rfl rfl rfl rfl (bn rfl rfl rfl rfl (bi (by assumption)) (Enc.len _)) ?_
  refine af rfl rfl rfl rfl (cj rfl rfl rfl) ?_
  try dsimp only [St.put]
  refine ar rfl rfl rfl rfl (br rfl rfl) ?_
  refine af rfl rfl rfl rfl (cj rfl rfl rfl) ?_
  try dsimp only [St.put]
  refine ar rfl rfl rfl rfl (br rfl rfl) ?_
  refine xM rfl rfl rfl rfl rfl ?_
  try dsimp only [St.put]
  refine af rfl rfl rfl rfl (bn rfl rfl rfl rfl (bi (by assumption)) (Enc.len _)) ?_
  refine af rfl rfl rfl rfl (cj rfl rfl rfl) ?_
  try dsimp only [St.put]
  refine ar rfl rfl rfl rfl (br rfl rfl) ?_
  refine g9 ?_
  try dsimp only [St.put]
  refine gu rfl rfl rfl (ba rfl rfl rfl (y4 p.text q ht hqp) ⟨zD, ?_⟩)
  try dsimp only [St.put]
  refine fe rfl rfl rfl rfl (ba rfl rfl rfl (ph _ _ _) ?_)
  refine g8 ?_
  dsimp only [St.put]
  refine K9 _ ?_
  refine am rfl (fun hc => ?_) (fun hc => ?_)
  ·have hb : fk p.text x q = true := hc
   refine yR ?_
   refine yM rfl rfl ?_
   refine aa rfl (bp rfl rfl rfl (by omega)) ?_
   refine yA rfl rfl ?_
   refine yN ?_
   dsimp only [St.put]
   refine K8 _ ?_
   refine yR ?_
   refine yM rfl rfl ?_
   refine aa rfl (bp rfl rfl rfl (by omega)) ?_
   refine yA rfl rfl ?_
   refine yN ?_
   dsimp only [St.put]
   have e := ua7 (x := x) hq
   first
   | (have z : fk p.text x q = true := hb
      rw [z, cond_true] at e
      rw [show ((f4 p.text x ((dn p.text).take i) : Nat) : Int) + 1 = ((f4 p.text x ((dn p.text).take (i + 1)) : Nat) : Int) by rw [e]; rfl]
      exact ⟨i + 1, by omega, by omega, ⟨⟨rfl, rfl⟩, zF, zB, zN, zX⟩⟩)
   | (have z : fk p.text x q = false := hb
      rw [show f4 p.text x ((dn p.text).take i) = f4 p.text x ((dn p.text).take (i + 1)) by rw [e, z]; rfl]
      exact ⟨i + 1, by omega, by omega, ⟨⟨rfl, rfl⟩, zF, zB, zN, zX⟩⟩)
  have hb : fk p.text x q = false := hc
  refine aw ?_
  refine K8 _ ?_
  refine yR ?_
  refine yM rfl rfl ?_
  refine aa rfl (bp rfl rfl rfl (by omega)) ?_
  refine yA rfl rfl ?_
  refine yN ?_
  dsimp only [St.put]
  have e := ua7 (x := x) hq
  first
  | (have z : fk p.text x q = true := hb
     rw [z, cond_true] at e
     rw [show ((f4 p.text x ((dn p.text).take i) : Nat) : Int) + 1 = ((f4 p.text x ((dn p.text).take (i + 1)) : Nat) : Int) by rw [e]; rfl]
     exact ⟨i + 1, by omega, by omega, ⟨⟨rfl, rfl⟩, zF, zB, zN, zX⟩⟩)
  | (have z : fk p.text x q = false := hb
     rw [show f4 p.text x ((dn p.text).take i) = f4 p.text x ((dn p.text).take (i + 1)) by rw [e, z]; rfl]
     exact ⟨i + 1, by omega, by omega, ⟨⟨rfl, rfl⟩, zF, zB, zN, zX⟩⟩)
 replace hc := of_decide_eq_false hc
 obtain rfl : i = (dn p.text).length := by omega
 refine cr ?_
 refine K4 _ ?_
 refine yS fun _ K10 => ?_
 refine yR ?_
 refine yM rfl rfl ?_
 refine yA rfl rfl ?_
 refine yN ?_
 dsimp only [St.put]
 refine K10 _ ?_
 refine aq ?_
 refine bh rfl (by constructor) zN zS ?_
 exact vi (by rw [List.take_length]; rfl)
theorem ui6 (p : ai) (j : Nat) (x : av) (b : Bool) (ht : dq p.text = true) (hx : p.pages[j]? = some x) (hf : x.found.length ≤ 1000) (hw : x.well.length ≤ 1000) : Pure Tryz.prog 72 [val p, .v (.int .i64 (j : Int)), .v (.bool b)] (lst (bif b then er p.text x else eb p.text x)) := by
 refine cw Tryz.func72 rfl (fun m => (cc _ _)) fun G nx => ?_
 simp only [Tryz.ntmps72, List.length_cons, List.length_nil, Nat.reduceAdd, Nat.reduceSub]
 refine bx fun hlt => ?_
 dsimp only at hlt
 have hal := n8 ht
 have hjl := (List.getElem?_eq_some_iff.1 hx).1
 refine yS fun _ K1 => ?_
 refine yR ?_
 try dsimp only [St.put]
 refine yB rfl rfl rfl ?_
 refine yA rfl rfl ?_
 refine yN ?_
 dsimp only [St.put]
 refine K1 _ ?_
 refine yS fun _ K2 => ?_
 refine yR ?_
 refine yA rfl rfl ?_
 refine yN ?_
 dsimp only [St.put]
 refine K2 _ ?_
 refine lk 7 61 3 rfl (by decide) ?_
 dsimp only [List.set_cons_zero, List.set_cons_succ]
 refine yS fun _ K3 => ?_
 refine yR ?_
 refine yF rfl rfl rfl rfl ?_
 refine yL rfl rfl rfl ?_
 refine yM rfl rfl ?_
 refine aa rfl (bn rfl rfl rfl rfl (bi (by assumption)) (Enc.len _)) ?_
 refine yE rfl rfl rfl ?_
 try dsimp only [St.put]
 refine ae rfl (dd rfl ?_)
 try dsimp only [St.put]
 refine ae rfl (cn rfl rfl rfl zG rfl rfl (by rfl) ?_)
 refine yN ?_
 dsimp only [St.put]
 refine K3 _ ?_
 refine fq (i := 8) rfl zG zC ?_
 dsimp only
 refine yS fun _ K4 => ?_
 refine yR ?_
 refine yF rfl rfl rfl rfl ?_
 try dsimp only [St.put]
 refine cb rfl (c := fa p.text) (i0 (cs := cells p) rfl rfl (show 1 ≤ 4 by decide)) ?_
 try dsimp only [St.put]
 refine ae rfl (ba rfl rfl rfl (uca p.text ht) ?_)
 refine yA rfl rfl ?_
 refine yN ?_
 dsimp only [St.put]
 refine K4 _ ?_
 refine yS fun _ K5 => ?_
 refine yS fun _ K6 => ?_
 refine yR ?_
 refine yA rfl rfl ?_
 refine yN ?_
 dsimp only [St.put]
 refine K6 _ ?_
 refine ay ?_
 refine ci 13 ?_
 refine zQ ?_
 refine c4 ((ah G nx (.tip (n1 p.text x b 0).length 61 3))) zX ?_
 dsimp only
 refine cz (X := Nat) (fun i => i ≤ (dn p.text).length) (fun i => (dn p.text).length - i) (fun i => [(7, .list ((n1 p.text x b i).map cells) (.tip nx)), (10, .v (.int .i64 (i : Int))), (11, .any), (12, .any)]) (fun i G' => (ah G nx (.tip (n1 p.text x b i).length 61 3))) 0 rfl ?_ ?_ ?_ ?_ ?_ ?_
 ·exact Nat.zero_le _
 ·exact zF
 ·exact zX
 ·rintro i hI
  exact zL
 ·rintro i hI
  exact zH
 rintro i hI
 dsimp only at hI ⊢
 refine yS fun _ K7 => ?_
 refine yS fun _ K8 => ?_
 refine yR ?_
 refine yM rfl rfl ?_
 refine yM rfl rfl ?_
 refine aa rfl (bg rfl rfl (List.length_map _)) ?_
 refine aa rfl (cg rfl rfl rfl) ?_
 refine yN ?_
 dsimp only [St.put]
 refine K8 _ ?_
 refine am rfl (fun hc => ?_) (fun hc => ?_)
 ·replace hc := of_decide_eq_true hc
  obtain ⟨q, hq⟩ : ∃ q, (dn p.text)[i]? = some q := da (by omega)
  have hfl := ul2 p.text x b i
  refine aw ?_
  refine K7 _ ?_
  refine yS fun _ K9 => ?_
  refine ay ?_
  refine yS fun _ K10 => ?_
  refine et [(0, none), (1, none), (2, none), (3, none), (4, none), (5, none), (7, none), (8, none), (9, none), (10, none), (11, none), (12, none), (6, none), (13, none), (14, none), (15, none)] (fun i => [13].contains i) (fun i => [6, 13].contains i) (fun i => [0, 2, 3, 4, 7, 9, 10, 11, 14, 15].contains i) [] (by kernel_rfl) (by kernel_rfl) ?_
  refine af rfl rfl rfl rfl (cj rfl rfl rfl) ?_
  try dsimp only [St.put]
  refine ar rfl rfl rfl rfl (br rfl rfl) ?_
  refine xM rfl rfl rfl rfl rfl ?_
  refine xM rfl rfl rfl rfl rfl ?_
  try dsimp only [St.put]
  refine af rfl rfl rfl rfl (bn rfl rfl rfl rfl (bi (by assumption)) (Enc.len _)) ?_
  try dsimp only [St.put]
  refine ar rfl rfl rfl rfl (dw rfl rfl (Enc.len _)) ?_
  refine af rfl rfl rfl rfl (cj rfl rfl rfl) ?_
  try dsimp only [St.put]
  refine ar rfl rfl rfl rfl (br rfl rfl) ?_
  refine xM rfl rfl rfl rfl rfl ?_
  refine xM rfl rfl rfl rfl rfl ?_
  try dsimp only [St.put]
  refine af rfl rfl rfl rfl (bn rfl rfl rfl rfl (bi (by assumption)) (Enc.len _)) ?_
  try dsimp only [St.put]
  refine ar rfl rfl rfl rfl (dw rfl rfl (Enc.len _)) ?_
  refine g9 ?_
  try dsimp only [St.put]
  refine gu rfl rfl rfl (ba rfl rfl rfl (ucf x.found q hf) ⟨zD, ?_⟩)
  try dsimp only [St.put]
  refine fe rfl rfl rfl rfl (ba rfl rfl rfl (ucf x.well q hw) ?_)
  refine ed rfl rfl rfl rfl (fw rfl (by constructor)) ?_
  refine ed rfl rfl rfl rfl (fw rfl (by constructor)) ?_
  refine g8 ?_
  dsimp only [St.put]
  refine K10 _ ?_
  refine ci 13 ?_
  refine zQ ?_
  refine ki (X := Bool) (fun d => jm x b q = d) (fun d => [(54, .v (.bool d))]) (fun d G' => G') rfl ?_ (fun _ _ _ _ h => .inl h) ?_ ?_
  ·rintro d hI
   exact zL
  ·refine yR ?_
   refine yM rfl rfl ?_
   refine yM rfl rfl ?_
   refine ei (fun hs => ?_) (fun hs => ?_)
   ·have s1 := hs
    refine yM rfl rfl ?_
    refine aa rfl (cy rfl rfl (by constructor)) ?_
    refine ei (fun hs => ?_) (fun hs => ?_)
    ·have s3 := hs
     refine yM rfl rfl ?_
     refine yK rfl ?_
     refine yK rfl ?_
     refine yK rfl ?_
     refine yK rfl ?_
     refine yK rfl ?_
     refine yK rfl ?_
     refine yK rfl ?_
     refine yK rfl ?_
     refine aa rfl (cy rfl rfl (by constructor)) ?_
     refine yN ?_
     dsimp only [St.put]
     refine ⟨_, ?_, ⟨⟨rfl, rfl⟩, zF, zB, zN, zX⟩⟩
     cases b <;> simp_all [jm]
    have s3 := hs
    refine yM rfl rfl ?_
    refine yM rfl rfl ?_
    refine aa rfl (dr rfl rfl) ?_
    refine ei (fun hs => ?_) (fun hs => ?_)
    ·have s6 := hs
     refine yM rfl rfl ?_
     refine yM rfl rfl ?_
     refine ei (fun hs => ?_) (fun hs => ?_)
     ·have s8 := hs
      refine yM rfl rfl ?_
      refine yK rfl ?_
      refine aa rfl (cy rfl rfl (by constructor)) ?_
      refine aa rfl (cy rfl rfl (by constructor)) ?_
      refine aa rfl (cm rfl rfl (by constructor)) ?_
      refine yN ?_
      dsimp only [St.put]
      refine ⟨_, ?_, ⟨⟨rfl, rfl⟩, zF, zB, zN, zX⟩⟩
      cases b <;> simp_all [jm]
     have s8 := hs
     refine yM rfl rfl ?_
     refine yM rfl rfl ?_
     refine aa rfl (cm rfl rfl (by constructor)) ?_
     refine aa rfl (cy rfl rfl (by constructor)) ?_
     refine aa rfl (cm rfl rfl (by constructor)) ?_
     refine yN ?_
     dsimp only [St.put]
     refine ⟨_, ?_, ⟨⟨rfl, rfl⟩, zF, zB, zN, zX⟩⟩
     cases b <;> simp_all [jm]
    have s6 := hs
    refine yM rfl rfl ?_
    refine yK rfl ?_
    refine yK rfl ?_
    refine yK rfl ?_
    refine yK rfl ?_
    refine aa rfl (cm rfl rfl (by constructor)) ?_
    refine aa rfl (cm rfl rfl (by constructor)) ?_
    refine yN ?_
    dsimp only [St.put]
    refine ⟨_, ?_, ⟨⟨rfl, rfl⟩, zF, zB, zN, zX⟩⟩
    cases b <;> simp_all [jm]
   have s1 := hs
   refine yK rfl ?_
   refine aa rfl (cm rfl rfl (by constructor)) ?_
   refine yM rfl rfl ?_
   refine yM rfl rfl ?_
   refine aa rfl (dr rfl rfl) ?_
   refine ei (fun hs => ?_) (fun hs => ?_)
   ·have s6 := hs
    refine yM rfl rfl ?_
    refine yM rfl rfl ?_
    refine ei (fun hs => ?_) (fun hs => ?_)
    ·have s8 := hs
     refine yM rfl rfl ?_
     refine yK rfl ?_
     refine aa rfl (cy rfl rfl (by constructor)) ?_
     refine aa rfl (cy rfl rfl (by constructor)) ?_
     refine aa rfl (cm rfl rfl (by constructor)) ?_
     refine yN ?_
     dsimp only [St.put]
     refine ⟨_, ?_, ⟨⟨rfl, rfl⟩, zF, zB, zN, zX⟩⟩
     cases b <;> simp_all [jm]
    have s8 := hs
    refine yM rfl rfl ?_
    refine yM rfl rfl ?_
    refine aa rfl (cm rfl rfl (by constructor)) ?_
    refine aa rfl (cy rfl rfl (by constructor)) ?_
    refine aa rfl (cm rfl rfl (by constructor)) ?_
    refine yN ?_
    dsimp only [St.put]
    refine ⟨_, ?_, ⟨⟨rfl, rfl⟩, zF, zB, zN, zX⟩⟩
    cases b <;> simp_all [jm]
   have s6 := hs
   refine yM rfl rfl ?_
   refine yK rfl ?_
   refine yK rfl ?_
   refine yK rfl ?_
   refine yK rfl ?_
   refine aa rfl (cm rfl rfl (by constructor)) ?_
   refine aa rfl (cm rfl rfl (by constructor)) ?_
   refine yN ?_
   dsimp only [St.put]
   refine ⟨_, ?_, ⟨⟨rfl, rfl⟩, zF, zB, zN, zX⟩⟩
   cases b <;> simp_all [jm]
  rintro d hst
  dsimp only at hst ⊢
  refine am rfl (fun hc => ?_) (fun hc => ?_)
  ·have hb : jm x b q = true := hst.trans hc
   refine yR ?_
   refine yM rfl rfl ?_
   refine yM rfl rfl ?_
   refine yM rfl rfl ?_
   refine aa rfl (bn rfl rfl rfl rfl (bi (by assumption)) (Enc.len _)) ?_
   refine yE rfl rfl rfl ?_
   try dsimp only [St.put]
   refine ae rfl (eg rfl rfl rfl (by decide) (by decide) zR (by decide) ?_)
   try dsimp only [St.put]
   refine ae rfl (ib ([q]) rfl rfl zG zE rfl rfl zA ?_ zA)
   refine yA rfl rfl ?_
   refine yN ?_
   dsimp only [St.put]
   refine K9 _ ?_
   refine yR ?_
   refine yM rfl rfl ?_
   refine aa rfl (bp rfl rfl rfl (by omega)) ?_
   refine yA rfl rfl ?_
   refine yN ?_
   dsimp only [St.put]
   have e := ueg (x := x) (b := b) hq
   first
   | (have z : jm x b q = true := hb
      rw [z, cond_true] at e
      rw [← e]
      exact ⟨i + 1, by omega, by omega, ⟨⟨rfl, rfl⟩, zF, zB, zN, zX⟩⟩)
   | (have z : jm x b q = false := hb
      rw [z, cond_false, List.append_nil] at e
      rw [← e]
      exact ⟨i + 1, by omega, by omega, ⟨⟨rfl, rfl⟩, zF, zB, zN, zX⟩⟩)
  have hb : jm x b q = false := hst.trans hc
  refine aw ?_
  refine K9 _ ?_
  refine yR ?_
  refine yM rfl rfl ?_
  refine aa rfl (bp rfl rfl rfl (by omega)) ?_
  refine yA rfl rfl ?_
  refine yN ?_
  dsimp only [St.put]
  have e := ueg (x := x) (b := b) hq
  first
  | (have z : jm x b q = true := hb
     rw [z, cond_true] at e
     rw [← e]
     exact ⟨i + 1, by omega, by omega, ⟨⟨rfl, rfl⟩, zF, zB, zN, zX⟩⟩)
  | (have z : jm x b q = false := hb
     rw [z, cond_false, List.append_nil] at e
     rw [← e]
     exact ⟨i + 1, by omega, by omega, ⟨⟨rfl, rfl⟩, zF, zB, zN, zX⟩⟩)
 replace hc := of_decide_eq_false hc
 obtain rfl : i = (dn p.text).length := by omega
 have hfin := ul3 p.text x b
 refine cr ?_
 refine K5 _ ?_
 refine yS fun _ K12 => ?_
 refine yR ?_
 refine yM rfl rfl ?_
 refine yA rfl rfl ?_
 refine yN ?_
 dsimp only [St.put]
 refine K12 _ ?_
 refine aq ?_
 refine lj rfl (du (by constructor)) zN zS ?_
 rw [← hfin]
 exact zW
end Go.Proofs.YtbbdginipiljdaaGreatDoor
namespace Go.AB
open Go Go.RowKit
open Go.AB.Enc (cells)
open Go.PB (az aj PlaceD bj bl bk bw av ai c6 cv dj di)
theorem uz {l : List av} {g : av → Nat} (k : Nat) : ct (l.take k) g ≤ ct l g := by
 have h : ct l g = ct (l.take k) g + ct (l.drop k) g := by
  unfold ct
  rw [← List.sum_append, ← List.map_append, List.take_append_drop]
 omega
theorem udn {p : ai} {b : Bool} {i : Nat} {r : bw} (h : (d7 p b)[i]? = some r) : l6 p b i = r.miss := by unfold l6; rw [h]
theorem uaf (R : Nat → Int) (S : Nat → Bool) (k : Nat) : fR R S (k + 1) = fR R S k + bif S k then R k else 0 := rfl
theorem xg (p : ai) (C : Nat → Int) (S : Nat → Bool) (k : Nat) : fC p C S (k + 1) = fC p C S k + bif (bu p).hit S k then 0 else C k := rfl
end Go.AB
namespace Go.Proofs.YtbbdginipiljdaaGreatDoor
set_option maxRecDepth 10000
open Go.RowKit Go.AB
open Go.AB.Enc (cells)
open Go.PB (az aj PlaceD bj bl bk bw av ai c6 cv dj di)
theorem ui3 (p : ai) (j : Nat) (x : av) (b : Bool) (i : Int) (hx : p.pages[j]? = some x) : Pure Tryz.prog 74 [val p, .v (.int .i64 (j : Int)), .v (.bool b), .v (.int .i64 i)] (.v (.bool (decide (em b x = i)))) := by
 refine cw Tryz.func74 rfl (fun m => .v) fun G nx => ?_
 simp only [Tryz.ntmps74, List.length_cons, List.length_nil, Nat.reduceAdd, Nat.reduceSub]
 refine bx fun hlt => ?_
 dsimp only at hlt
 have hjl := (List.getElem?_eq_some_iff.1 hx).1
 refine yS fun _ K1 => ?_
 refine yR ?_
 try dsimp only [St.put]
 refine yB rfl rfl rfl ?_
 refine yA rfl rfl ?_
 refine yN ?_
 dsimp only [St.put]
 refine K1 _ ?_
 refine yS fun _ K2 => ?_
 refine yS fun _ K3 => ?_
 refine yR ?_
 refine yM rfl rfl ?_
 refine yN ?_
 dsimp only [St.put]
 refine K3 _ ?_
 refine am rfl (fun hc => ?_) (fun hc => ?_)
 ·have hb : b = true := hc
  refine yS fun _ K4 => ?_
  refine yR ?_
  refine yF rfl rfl rfl rfl ?_
  refine yL rfl rfl rfl ?_
  refine yM rfl rfl ?_
  refine aa rfl (bn rfl rfl rfl rfl (bi (by assumption)) (Enc.len _)) ?_
  refine yF rfl rfl rfl rfl ?_
  refine yL rfl rfl rfl ?_
  refine yM rfl rfl ?_
  refine aa rfl (j8 rfl rfl rfl) ?_
  refine yA rfl rfl ?_
  refine yN ?_
  dsimp only [St.put]
  refine K4 _ ?_
  refine aq ?_
  refine bh rfl (by constructor) zN zS ?_
  exact vb (by rw [hb]; rfl)
 have hb : b = false := hc
 refine aw ?_
 refine K2 _ ?_
 refine yS fun _ K5 => ?_
 refine yR ?_
 refine yF rfl rfl rfl rfl ?_
 refine yL rfl rfl rfl ?_
 refine yM rfl rfl ?_
 refine aa rfl (bn rfl rfl rfl rfl (bi (by assumption)) (Enc.len _)) ?_
 refine yF rfl rfl rfl rfl ?_
 refine yL rfl rfl rfl ?_
 refine yM rfl rfl ?_
 refine aa rfl (j8 rfl rfl rfl) ?_
 refine yA rfl rfl ?_
 refine yN ?_
 dsimp only [St.put]
 refine K5 _ ?_
 refine aq ?_
 refine bh rfl (by constructor) zN zS ?_
 exact vb (by rw [hb]; rfl)
theorem ucg (p : ai) (j : Nat) (x : av) (ht : dq p.text = true) (hx : p.pages[j]? = some x) (hf : x.found.length ≤ 1000) (hw : x.well.length ≤ 1000) : Pure Tryz.prog 72 [val p, .v (.int .i64 (j : Int)), .v (.bool false)] (lst (eb p.text x)) := ui6 p j x false ht hx hf hw
set_option maxHeartbeats 1000000 in
theorem ui7 (p : ai) (b : Bool) (i : Nat) (h : ey p) (hi : i < (d7 p b).length) : Pure Tryz.prog 75 [val p, .v (.bool b), .v (.int .i64 (i : Int))] (.tup [.v (.int .i64 (ml p b i)), .v (.int .i64 (jv p b i))]) := by
 refine cw Tryz.func75 rfl (fun m => .tup (cp .v (cp .v dp))) fun G nx => ?_
 simp only [Tryz.ntmps75, List.length_cons, List.length_nil, Nat.reduceAdd, Nat.reduceSub]
 refine bx fun hlt => ?_
 dsimp only at hlt
 have hown := y9 h b (i : Int)
 have hrd := yy h b (i : Int)
 have hal := n8 h.text
 have hnp := h.np
 have hmb := zl h b i
 obtain ⟨r, hr⟩ : ∃ r, (d7 p b)[i]? = some r := da hi
 have hmr := udn hr
 refine yS fun _ K1 => ?_
 refine yR ?_
 try dsimp only [St.put]
 refine yB rfl rfl rfl ?_
 refine yA rfl rfl ?_
 refine yA rfl rfl ?_
 refine yN ?_
 dsimp only [St.put]
 refine K1 _ ?_
 refine yS fun _ K2 => ?_
 refine yR ?_
 refine yA rfl rfl ?_
 refine yA rfl rfl ?_
 refine yN ?_
 dsimp only [St.put]
 refine K2 _ ?_
 refine yS fun _ K3 => ?_
 refine yS fun _ K4 => ?_
 refine yR ?_
 refine yA rfl rfl ?_
 refine yN ?_
 dsimp only [St.put]
 refine K4 _ ?_
 refine ay ?_
 refine ci 13 ?_
 refine zQ ?_
 refine c4 (G) zX ?_
 dsimp only
 refine cz (X := Nat) (fun k => k ≤ p.pages.length) (fun k => p.pages.length - k) (fun k => [(8, .v (.int .i64 ((ct (p.pages.take k) (dl b (i : Int)) : Nat) : Int))), (9, .v (.int .i64 ((ct (p.pages.take k) (dz p.text b (i : Int)) : Nat) : Int))), (10, .v (.int .i64 (k : Int)))]) (fun k G' => G') 0 rfl ?_ ?_ (fun _ _ h => h) ?_ ?_ ?_
 ·exact Nat.zero_le _
 ·exact zF
 ·rintro k hI
  exact zL
 ·exact fun _ _ _ _ h => .inl h
 rintro k hI
 dsimp only at hI ⊢
 refine yS fun _ K5 => ?_
 refine yS fun _ K6 => ?_
 refine yR ?_
 refine yM rfl rfl ?_
 refine yF rfl rfl rfl rfl ?_
 refine yL rfl rfl rfl ?_
 refine aa rfl (bg rfl rfl (List.length_map _)) ?_
 refine aa rfl (cg rfl rfl rfl) ?_
 refine yN ?_
 dsimp only [St.put]
 refine K6 _ ?_
 refine am rfl (fun hc => ?_) (fun hc => ?_)
 ·replace hc := of_decide_eq_true hc
  obtain ⟨x, hx⟩ : ∃ x, p.pages[k]? = some x := da (by omega)
  have hp := pageB_true.1 (h.page k x hx)
  have hfl := n3 hp.found
  have hwl := n3 hp.well
  have hgl := rq p.text x
  have ht1 := uz (l := p.pages) (g := dl b (i : Int)) k
  have ht2 := uz (l := p.pages) (g := dz p.text b (i : Int)) k
  refine aw ?_
  refine K5 _ ?_
  refine yS fun _ K7 => ?_
  refine ay ?_
  refine yS fun _ K8 => ?_
  refine yS fun _ K9 => ?_
  refine yR ?_
  refine yE rfl rfl rfl ?_
  refine yM rfl rfl ?_
  refine yM rfl rfl ?_
  refine yM rfl rfl ?_
  try dsimp only [St.put]
  refine ae rfl (ba rfl rfl rfl (ui3 p k x b (i : Int) hx) ?_)
  refine aa rfl (dr rfl rfl) ?_
  refine yN ?_
  dsimp only [St.put]
  refine K9 _ ?_
  refine am rfl (fun hc => ?_) (fun hc => ?_)
  ·have hno : ¬ em b x = (i : Int) := by simpa using hc
   refine cr ?_
   refine K7 _ ?_
   refine yR ?_
   refine yM rfl rfl ?_
   refine aa rfl (bp rfl rfl rfl (by omega)) ?_
   refine yA rfl rfl ?_
   refine yN ?_
   dsimp only [St.put]
   have e1 := mp (g := dl b (i : Int)) hx
   have e2 := mp (g := dz p.text b (i : Int)) hx
   first
   | (have z : ¬ em b x = (i : Int) := hno
      rw [show ct (p.pages.take k) (dl b (i : Int)) = ct (p.pages.take (k + 1)) (dl b (i : Int)) by rw [e1]; unfold dl; rw [decide_eq_false z]; rfl, show ct (p.pages.take k) (dz p.text b (i : Int)) = ct (p.pages.take (k + 1)) (dz p.text b (i : Int)) by rw [e2]; unfold dz; rw [decide_eq_false z]; rfl]
      exact ⟨k + 1, by omega, by omega, ⟨⟨rfl, rfl⟩, zF, zB, zN, zX⟩⟩)
   | (have z : b = true := hb
      rw [show ((ct (p.pages.take k) (dl b (i : Int)) : Nat) : Int) + (x.well.length : Int) = ((ct (p.pages.take (k + 1)) (dl b (i : Int)) : Nat) : Int) by rw [e1]; unfold dl; rw [decide_eq_true hyes, cond_true, z]; rfl, show ((ct (p.pages.take k) (dz p.text b (i : Int)) : Nat) : Int) + ((eb p.text x).length : Int) = ((ct (p.pages.take (k + 1)) (dz p.text b (i : Int)) : Nat) : Int) by rw [e2]; unfold dz; rw [decide_eq_true hyes, cond_true]; rfl]
      exact ⟨k + 1, by omega, by omega, ⟨⟨rfl, rfl⟩, zF, zB, zN, zX⟩⟩)
   | (have z : b = false := hb
      rw [show ((ct (p.pages.take k) (dl b (i : Int)) : Nat) : Int) + (x.found.length : Int) = ((ct (p.pages.take (k + 1)) (dl b (i : Int)) : Nat) : Int) by rw [e1]; unfold dl; rw [decide_eq_true hyes, cond_true, z]; rfl, show ((ct (p.pages.take k) (dz p.text b (i : Int)) : Nat) : Int) + ((eb p.text x).length : Int) = ((ct (p.pages.take (k + 1)) (dz p.text b (i : Int)) : Nat) : Int) by rw [e2]; unfold dz; rw [decide_eq_true hyes, cond_true]; rfl]
      exact ⟨k + 1, by omega, by omega, ⟨⟨rfl, rfl⟩, zF, zB, zN, zX⟩⟩)
  have hyes : em b x = (i : Int) := by simpa using hc
  refine aw ?_
  refine K8 _ ?_
  refine yS fun _ K10 => ?_
  refine yR ?_
  refine yM rfl rfl ?_
  refine yE rfl rfl rfl ?_
  refine yM rfl rfl ?_
  try dsimp only [St.put]
  refine ae rfl (ba rfl rfl rfl (ucg p k x h.text hx (by omega) (by omega)) ?_)
  refine aa rfl (bg rfl rfl (List.length_map _)) ?_
  refine aa rfl (bp rfl rfl rfl (by omega)) ?_
  refine yA rfl rfl ?_
  refine yN ?_
  dsimp only [St.put]
  refine K10 _ ?_
  refine yS fun _ K11 => ?_
  refine yR ?_
  refine yM rfl rfl ?_
  refine yN ?_
  dsimp only [St.put]
  refine K11 _ ?_
  refine am rfl (fun hc => ?_) (fun hc => ?_)
  ·have hb : b = true := hc
   refine yR ?_
   refine yM rfl rfl ?_
   refine yF rfl rfl rfl rfl ?_
   refine yL rfl rfl rfl ?_
   refine yM rfl rfl ?_
   refine aa rfl (bn rfl rfl rfl rfl (bi (by assumption)) (Enc.len _)) ?_
   refine yF rfl rfl rfl rfl ?_
   refine yL rfl rfl rfl ?_
   refine aa rfl (bg rfl rfl (List.length_map _)) ?_
   refine aa rfl (bp rfl rfl rfl (by omega)) ?_
   refine yA rfl rfl ?_
   refine yN ?_
   dsimp only [St.put]
   refine K7 _ ?_
   refine yR ?_
   refine yM rfl rfl ?_
   refine aa rfl (bp rfl rfl rfl (by omega)) ?_
   refine yA rfl rfl ?_
   refine yN ?_
   dsimp only [St.put]
   have e1 := mp (g := dl b (i : Int)) hx
   have e2 := mp (g := dz p.text b (i : Int)) hx
   first
   | (have z : ¬ em b x = (i : Int) := hno
      rw [show ct (p.pages.take k) (dl b (i : Int)) = ct (p.pages.take (k + 1)) (dl b (i : Int)) by rw [e1]; unfold dl; rw [decide_eq_false z]; rfl, show ct (p.pages.take k) (dz p.text b (i : Int)) = ct (p.pages.take (k + 1)) (dz p.text b (i : Int)) by rw [e2]; unfold dz; rw [decide_eq_false z]; rfl]
      exact ⟨k + 1, by omega, by omega, ⟨⟨rfl, rfl⟩, zF, zB, zN, zX⟩⟩)
   | (have z : b = true := hb
      rw [show ((ct (p.pages.take k) (dl b (i : Int)) : Nat) : Int) + (x.well.length : Int) = ((ct (p.pages.take (k + 1)) (dl b (i : Int)) : Nat) : Int) by rw [e1]; unfold dl; rw [decide_eq_true hyes, cond_true, z]; rfl, show ((ct (p.pages.take k) (dz p.text b (i : Int)) : Nat) : Int) + ((eb p.text x).length : Int) = ((ct (p.pages.take (k + 1)) (dz p.text b (i : Int)) : Nat) : Int) by rw [e2]; unfold dz; rw [decide_eq_true hyes, cond_true]; rfl]
      exact ⟨k + 1, by omega, by omega, ⟨⟨rfl, rfl⟩, zF, zB, zN, zX⟩⟩)
   | (have z : b = false := hb
      rw [show ((ct (p.pages.take k) (dl b (i : Int)) : Nat) : Int) + (x.found.length : Int) = ((ct (p.pages.take (k + 1)) (dl b (i : Int)) : Nat) : Int) by rw [e1]; unfold dl; rw [decide_eq_true hyes, cond_true, z]; rfl, show ((ct (p.pages.take k) (dz p.text b (i : Int)) : Nat) : Int) + ((eb p.text x).length : Int) = ((ct (p.pages.take (k + 1)) (dz p.text b (i : Int)) : Nat) : Int) by rw [e2]; unfold dz; rw [decide_eq_true hyes, cond_true]; rfl]
      exact ⟨k + 1, by omega, by omega, ⟨⟨rfl, rfl⟩, zF, zB, zN, zX⟩⟩)
  have hb : b = false := hc
  refine yR ?_
  refine yM rfl rfl ?_
  refine yF rfl rfl rfl rfl ?_
  refine yL rfl rfl rfl ?_
  refine yM rfl rfl ?_
  refine aa rfl (bn rfl rfl rfl rfl (bi (by assumption)) (Enc.len _)) ?_
  refine yF rfl rfl rfl rfl ?_
  refine yL rfl rfl rfl ?_
  refine aa rfl (bg rfl rfl (List.length_map _)) ?_
  refine aa rfl (bp rfl rfl rfl (by omega)) ?_
  refine yA rfl rfl ?_
  refine yN ?_
  dsimp only [St.put]
  refine K7 _ ?_
  refine yR ?_
  refine yM rfl rfl ?_
  refine aa rfl (bp rfl rfl rfl (by omega)) ?_
  refine yA rfl rfl ?_
  refine yN ?_
  dsimp only [St.put]
  have e1 := mp (g := dl b (i : Int)) hx
  have e2 := mp (g := dz p.text b (i : Int)) hx
  first
  | (have z : ¬ em b x = (i : Int) := hno
     rw [show ct (p.pages.take k) (dl b (i : Int)) = ct (p.pages.take (k + 1)) (dl b (i : Int)) by rw [e1]; unfold dl; rw [decide_eq_false z]; rfl, show ct (p.pages.take k) (dz p.text b (i : Int)) = ct (p.pages.take (k + 1)) (dz p.text b (i : Int)) by rw [e2]; unfold dz; rw [decide_eq_false z]; rfl]
     exact ⟨k + 1, by omega, by omega, ⟨⟨rfl, rfl⟩, zF, zB, zN, zX⟩⟩)
  | (have z : b = true := hb
     rw [show ((ct (p.pages.take k) (dl b (i : Int)) : Nat) : Int) + (x.well.length : Int) = ((ct (p.pages.take (k + 1)) (dl b (i : Int)) : Nat) : Int) by rw [e1]; unfold dl; rw [decide_eq_true hyes, cond_true, z]; rfl, show ((ct (p.pages.take k) (dz p.text b (i : Int)) : Nat) : Int) + ((eb p.text x).length : Int) = ((ct (p.pages.take (k + 1)) (dz p.text b (i : Int)) : Nat) : Int) by rw [e2]; unfold dz; rw [decide_eq_true hyes, cond_true]; rfl]
     exact ⟨k + 1, by omega, by omega, ⟨⟨rfl, rfl⟩, zF, zB, zN, zX⟩⟩)
  | (have z : b = false := hb
     rw [show ((ct (p.pages.take k) (dl b (i : Int)) : Nat) : Int) + (x.found.length : Int) = ((ct (p.pages.take (k + 1)) (dl b (i : Int)) : Nat) : Int) by rw [e1]; unfold dl; rw [decide_eq_true hyes, cond_true, z]; rfl, show ((ct (p.pages.take k) (dz p.text b (i : Int)) : Nat) : Int) + ((eb p.text x).length : Int) = ((ct (p.pages.take (k + 1)) (dz p.text b (i : Int)) : Nat) : Int) by rw [e2]; unfold dz; rw [decide_eq_true hyes, cond_true]; rfl]
     exact ⟨k + 1, by omega, by omega, ⟨⟨rfl, rfl⟩, zF, zB, zN, zX⟩⟩)
 replace hc := of_decide_eq_false hc
 obtain rfl : k = p.pages.length := by omega
 refine cr ?_
 refine K3 _ ?_
 refine yS fun _ K12 => ?_
 refine yR ?_
 refine yA rfl rfl ?_
 refine yN ?_
 dsimp only [St.put]
 rw [el (Nat.le_refl p.pages.length)]
 refine K12 _ ?_
 refine yS fun _ K13 => ?_
 refine yS fun _ K14 => ?_
 refine yR ?_
 refine yM rfl rfl ?_
 refine yN ?_
 dsimp only [St.put]
 refine K14 _ ?_
 refine am rfl (fun hc => ?_) (fun hc => ?_)
 ·have hb2 : b = true := hc
  have hr2 : p.seconds[i]? = some r := by rw [hb2] at hr; exact hr
  have hil := (List.getElem?_eq_some_iff.1 hr2).1
  refine yR ?_
  refine yF rfl rfl rfl rfl ?_
  refine yL rfl rfl rfl ?_
  refine yM rfl rfl ?_
  refine aa rfl (bn rfl rfl rfl rfl (bi (by assumption)) (Enc.len _)) ?_
  refine yF rfl rfl rfl rfl ?_
  refine yL rfl rfl rfl ?_
  refine yA rfl rfl ?_
  refine yN ?_
  dsimp only [St.put]
  refine K13 _ ?_
  refine yS fun _ K15 => ?_
  refine yR ?_
  refine yM rfl rfl ?_
  refine aa rfl (we rfl rfl rfl (by omega)) ?_
  refine yM rfl rfl ?_
  refine aa rfl (f9 rfl rfl rfl (by omega)) ?_
  refine aa rfl (zj rfl rfl rfl (by omega) (by omega)) ?_
  refine yA rfl rfl ?_
  refine yN ?_
  dsimp only [St.put]
  rw [show (100 * ((ct p.pages (dl b (i : Int)) : Nat) : Int)) / (100 - r.miss) = ml p b i by unfold ml; rw [hmr]]
  have hbd := xl h b i
  refine K15 _ ?_
  refine yS fun _ K16 => ?_
  refine yR ?_
  refine yM rfl rfl ?_
  refine yM rfl rfl ?_
  refine yM rfl rfl ?_
  refine aa rfl (f9 rfl rfl rfl (by omega)) ?_
  refine yA rfl rfl ?_
  refine yA rfl rfl ?_
  refine yN ?_
  dsimp only [St.put]
  refine K16 _ ?_
  refine aq ?_
  refine mh rfl (by constructor) (by constructor) zN zS ?_ ?_
  ·rfl
  exact vi (by unfold jv; rfl)
 have hb2 : b = false := hc
 have hr2 : p.firsts[i]? = some r := by rw [hb2] at hr; exact hr
 have hil := (List.getElem?_eq_some_iff.1 hr2).1
 refine yR ?_
 refine yF rfl rfl rfl rfl ?_
 refine yL rfl rfl rfl ?_
 refine yM rfl rfl ?_
 refine aa rfl (bn rfl rfl rfl rfl (bi (by assumption)) (Enc.len _)) ?_
 refine yF rfl rfl rfl rfl ?_
 refine yL rfl rfl rfl ?_
 refine yA rfl rfl ?_
 refine yN ?_
 dsimp only [St.put]
 refine K13 _ ?_
 refine yS fun _ K17 => ?_
 refine yR ?_
 refine yM rfl rfl ?_
 refine aa rfl (we rfl rfl rfl (by omega)) ?_
 refine yM rfl rfl ?_
 refine aa rfl (f9 rfl rfl rfl (by omega)) ?_
 refine aa rfl (zj rfl rfl rfl (by omega) (by omega)) ?_
 refine yA rfl rfl ?_
 refine yN ?_
 dsimp only [St.put]
 rw [show (100 * ((ct p.pages (dl b (i : Int)) : Nat) : Int)) / (100 - r.miss) = ml p b i by unfold ml; rw [hmr]]
 have hbd := xl h b i
 refine K17 _ ?_
 refine yS fun _ K18 => ?_
 refine yR ?_
 refine yM rfl rfl ?_
 refine yM rfl rfl ?_
 refine yM rfl rfl ?_
 refine aa rfl (f9 rfl rfl rfl (by omega)) ?_
 refine yA rfl rfl ?_
 refine yA rfl rfl ?_
 refine yN ?_
 dsimp only [St.put]
 refine K18 _ ?_
 refine aq ?_
 refine mh rfl (by constructor) (by constructor) zN zS ?_ ?_
 ·rfl
 exact vi (by unfold jv; rfl)
end Go.Proofs.YtbbdginipiljdaaGreatDoor
namespace Go.Proofs.YtbbdginipiljdaaGreatDoor
set_option maxRecDepth 10000
open Go Go.RowKit Go.AB
open Go.AB.Enc (cells)
open Go.PB (az aj PlaceD bj bl bk bw av ai c6 cv dj di)
theorem uh1 (p : ai) : Pure Tryz.prog 157 [val p] (lst p.firsts) := by
 refine cw Tryz.func157 rfl (fun m => (cc _ _)) fun G nx => ?_
 simp only [Tryz.ntmps157, List.length_cons, List.length_nil, Nat.reduceAdd, Nat.reduceSub]
 refine bx fun hlt => ?_
 dsimp only at hlt
 refine yS fun _ K1 => ?_
 refine yR ?_
 try dsimp only [St.put]
 refine yB rfl rfl rfl ?_
 refine yA rfl rfl ?_
 refine yN ?_
 dsimp only [St.put]
 refine K1 _ ?_
 refine yS fun _ K2 => ?_
 refine yR ?_
 refine yF rfl rfl rfl rfl ?_
 refine yL rfl rfl rfl ?_
 refine yA rfl rfl ?_
 refine yN ?_
 dsimp only [St.put]
 refine K2 _ ?_
 refine aq ?_
 refine bh rfl (by constructor) zN zS ?_
 rfl
theorem uh0 (x : av) : Pure Tryz.prog 158 [val x] (.v (.int .i64 x.fst)) := by
 refine cw Tryz.func158 rfl (fun m => .v) fun G nx => ?_
 simp only [Tryz.ntmps158, List.length_cons, List.length_nil, Nat.reduceAdd, Nat.reduceSub]
 refine bx fun hlt => ?_
 dsimp only at hlt
 refine yS fun _ K1 => ?_
 refine yR ?_
 try dsimp only [St.put]
 refine yB rfl rfl rfl ?_
 refine yA rfl rfl ?_
 refine yN ?_
 dsimp only [St.put]
 refine K1 _ ?_
 refine yS fun _ K2 => ?_
 refine yR ?_
 refine yF rfl rfl rfl rfl ?_
 refine yL rfl rfl rfl ?_
 refine yA rfl rfl ?_
 refine yN ?_
 dsimp only [St.put]
 refine K2 _ ?_
 refine aq ?_
 refine bh rfl (by constructor) zN zS ?_
 rfl
theorem uhz (x : av) : Pure Tryz.prog 159 [val x] (lst x.found) := by
 refine cw Tryz.func159 rfl (fun m => (cc _ _)) fun G nx => ?_
 simp only [Tryz.ntmps159, List.length_cons, List.length_nil, Nat.reduceAdd, Nat.reduceSub]
 refine bx fun hlt => ?_
 dsimp only at hlt
 refine yS fun _ K1 => ?_
 refine yR ?_
 try dsimp only [St.put]
 refine yB rfl rfl rfl ?_
 refine yA rfl rfl ?_
 refine yN ?_
 dsimp only [St.put]
 refine K1 _ ?_
 refine yS fun _ K2 => ?_
 refine yR ?_
 refine yF rfl rfl rfl rfl ?_
 refine yL rfl rfl rfl ?_
 refine yA rfl rfl ?_
 refine yN ?_
 dsimp only [St.put]
 refine K2 _ ?_
 refine aq ?_
 refine bh rfl (by constructor) zN zS ?_
 rfl
theorem uhy (p : ai) : Pure Tryz.prog 160 [val p] (lst p.seconds) := by
 refine cw Tryz.func160 rfl (fun m => (cc _ _)) fun G nx => ?_
 simp only [Tryz.ntmps160, List.length_cons, List.length_nil, Nat.reduceAdd, Nat.reduceSub]
 refine bx fun hlt => ?_
 dsimp only at hlt
 refine yS fun _ K1 => ?_
 refine yR ?_
 try dsimp only [St.put]
 refine yB rfl rfl rfl ?_
 refine yA rfl rfl ?_
 refine yN ?_
 dsimp only [St.put]
 refine K1 _ ?_
 refine yS fun _ K2 => ?_
 refine yR ?_
 refine yF rfl rfl rfl rfl ?_
 refine yL rfl rfl rfl ?_
 refine yA rfl rfl ?_
 refine yN ?_
 dsimp only [St.put]
 refine K2 _ ?_
 refine aq ?_
 refine bh rfl (by constructor) zN zS ?_
 rfl
theorem uhx (x : av) : Pure Tryz.prog 161 [val x] (.v (.int .i64 x.snd)) := by
 refine cw Tryz.func161 rfl (fun m => .v) fun G nx => ?_
 simp only [Tryz.ntmps161, List.length_cons, List.length_nil, Nat.reduceAdd, Nat.reduceSub]
 refine bx fun hlt => ?_
 dsimp only at hlt
 refine yS fun _ K1 => ?_
 refine yR ?_
 try dsimp only [St.put]
 refine yB rfl rfl rfl ?_
 refine yA rfl rfl ?_
 refine yN ?_
 dsimp only [St.put]
 refine K1 _ ?_
 refine yS fun _ K2 => ?_
 refine yR ?_
 refine yF rfl rfl rfl rfl ?_
 refine yL rfl rfl rfl ?_
 refine yA rfl rfl ?_
 refine yN ?_
 dsimp only [St.put]
 refine K2 _ ?_
 refine aq ?_
 refine bh rfl (by constructor) zN zS ?_
 rfl
theorem uhw (x : av) : Pure Tryz.prog 162 [val x] (lst x.well) := by
 refine cw Tryz.func162 rfl (fun m => (cc _ _)) fun G nx => ?_
 simp only [Tryz.ntmps162, List.length_cons, List.length_nil, Nat.reduceAdd, Nat.reduceSub]
 refine bx fun hlt => ?_
 dsimp only at hlt
 refine yS fun _ K1 => ?_
 refine yR ?_
 try dsimp only [St.put]
 refine yB rfl rfl rfl ?_
 refine yA rfl rfl ?_
 refine yN ?_
 dsimp only [St.put]
 refine K1 _ ?_
 refine yS fun _ K2 => ?_
 refine yR ?_
 refine yF rfl rfl rfl rfl ?_
 refine yL rfl rfl rfl ?_
 refine yA rfl rfl ?_
 refine yN ?_
 dsimp only [St.put]
 refine K2 _ ?_
 refine aq ?_
 refine bh rfl (by constructor) zN zS ?_
 rfl
def sRd (b : Bool) : FuncId := bif b then 160 else 157
def sFt (b : Bool) : FuncId := bif b then 161 else 158
def sFd (b : Bool) : FuncId := bif b then 162 else 159
instance (b : Bool) : Fun Tryz.prog (sRd b) := by
 cases b
 ·exact inferInstanceAs (Fun Tryz.prog 157)
 exact inferInstanceAs (Fun Tryz.prog 160)
instance (b : Bool) : Fun Tryz.prog (sFt b) := by
 cases b
 ·exact inferInstanceAs (Fun Tryz.prog 158)
 exact inferInstanceAs (Fun Tryz.prog 161)
instance (b : Bool) : Fun Tryz.prog (sFd b) := by
 cases b
 ·exact inferInstanceAs (Fun Tryz.prog 159)
 exact inferInstanceAs (Fun Tryz.prog 162)
theorem p7 (b : Bool) (p : ai) : Pure Tryz.prog (sRd b) [val p] (lst (d7 p b)) := by
 cases b
 ·exact uh1 p
 exact uhy p
theorem yo (b : Bool) (x : av) : Pure Tryz.prog (sFt b) [val x] (.v (.int .i64 (em b x))) := by
 cases b
 ·exact uh0 x
 exact uhx x
theorem ub2 (b : Bool) (x : av) : Pure Tryz.prog (sFd b) [val x] (lst (dm b x)) := by
 cases b
 ·exact uhz x
 exact uhw x
abbrev qw (b : Bool) : List C := [.fn (.func (sRd b)) [], .fn (.func (sFt b)) [], .fn (.func (sFd b)) []]
abbrev sidL : List C := qw false ++ qw true
abbrev kx : GObj := .fact (.pointer (some ⟨0, 0, none⟩)) (.elem sidL)
abbrev k7 (p : ai) : List C := [lst p.text, lst p.firsts, lst p.seconds, lst p.pages, lst (p.pages.map fun x => (fj p.text x : Int)), lst (p.pages.map (eb p.text)), lst (p.pages.map (er p.text))]
theorem vf : ∀ {k : Nat}, k < 2 → (sidL.drop (k * 3)).take 3 = qw (decide (k = 1))
 | 0, _ => rfl
 | 1, _ => rfl
 | k + 2, h => by omega
set_option maxHeartbeats 1000000 in
theorem ujo (p : ai) (b : Bool) (i : Nat) (h : ey p) (hi : i < (d7 p b).length) : Pure Tryz.prog 77 [.elem (k7 p), .agg (qw b), .v (.int .i64 (i : Int))] (.tup [.v (.int .i64 (ml p b i)), .v (.int .i64 (jv p b i))]) := by
 refine cw Tryz.func77 rfl (fun m => .tup (cp .v (cp .v dp))) fun G nx => ?_
 simp only [Tryz.ntmps77, List.length_cons, List.length_nil, Nat.reduceAdd, Nat.reduceSub]
 refine bx fun hlt => ?_
 dsimp only at hlt
 have hown := y9 h b (i : Int)
 have hrd := yy h b (i : Int)
 have hal := n8 h.text
 have hnp := h.np
 have hmb := zl h b i
 obtain ⟨r, hr⟩ : ∃ r, (d7 p b)[i]? = some r := da hi
 have hmr := udn hr
 refine yS fun _ K1 => ?_
 refine yR ?_
 try dsimp only [St.put]
 refine yB rfl rfl rfl ?_
 refine yA rfl rfl ?_
 refine yA rfl rfl ?_
 refine yN ?_
 dsimp only [St.put]
 refine K1 _ ?_
 refine yS fun _ K2 => ?_
 refine yR ?_
 refine yA rfl rfl ?_
 refine yA rfl rfl ?_
 refine yN ?_
 dsimp only [St.put]
 refine K2 _ ?_
 refine yS fun _ K3 => ?_
 refine yS fun _ K4 => ?_
 refine yR ?_
 refine yM rfl rfl ?_
 refine aa rfl (ov rfl rfl) ?_
 refine yF rfl rfl rfl rfl ?_
 refine yF rfl rfl rfl rfl ?_
 refine yL rfl rfl rfl ?_
 refine aa rfl (bg rfl rfl (List.length_map _)) ?_
 refine yM rfl rfl ?_
 refine yN ?_
 dsimp only [St.put]
 refine K4 _ ?_
 refine ay ?_
 refine ci 20 ?_
 refine zQ ?_
 refine c4 (G) zX ?_
 dsimp only
 refine cz (X := Nat) (fun k => k ≤ p.pages.length) (fun k => p.pages.length - k) (fun k => [(8, .v (.int .i64 ((ct (p.pages.take k) (dl b (i : Int)) : Nat) : Int))), (9, .v (.int .i64 ((ct (p.pages.take k) (dz p.text b (i : Int)) : Nat) : Int))), (10, .any), (11, .any), (19, .v (.int .i64 (k : Int)))]) (fun k G' => G') 0 rfl ?_ ?_ (fun _ _ h => h) ?_ ?_ ?_
 ·exact Nat.zero_le _
 ·exact zF
 ·rintro k hI
  exact zL
 ·exact fun _ _ _ _ h => .inl h
 rintro k hI
 dsimp only at hI ⊢
 refine yS fun _ K5 => ?_
 refine yR ?_
 refine aa rfl (cg rfl rfl rfl) ?_
 refine yN ?_
 dsimp only [St.put]
 refine K5 _ ?_
 refine yS fun _ K6 => ?_
 refine am rfl (fun hc => ?_) (fun hc => ?_)
 ·replace hc := of_decide_eq_true hc
  obtain ⟨x, hx⟩ : ∃ x, p.pages[k]? = some x := da (by omega)
  have hax : (p.pages.map (eb p.text))[k]? = some (eb p.text x) := by rw [List.getElem?_map, hx]; rfl
  have hp := pageB_true.1 (h.page k x hx)
  have hfd : (dm b x).length ≤ 600 := by
   have hfl := n3 hp.found
   have hwl := n3 hp.well
   cases b
   ·show x.found.length ≤ 600
    omega
   show x.well.length ≤ 600
   omega
  have hgl := rq p.text x
  have ht1 := uz (l := p.pages) (g := dl b (i : Int)) k
  have ht2 := uz (l := p.pages) (g := dz p.text b (i : Int)) k
  refine aw ?_
  refine K6 _ ?_
  refine yS fun _ K7 => ?_
  refine ay ?_
  refine yS fun _ K8 => ?_
  refine yR ?_
  refine yM rfl rfl ?_
  refine aa rfl (bn rfl rfl rfl rfl (bi (by assumption)) (Enc.len _)) ?_
  refine yE rfl rfl rfl ?_
  try dsimp only [St.put]
  refine ae rfl (dd rfl ?_)
  refine yA rfl rfl ?_
  try dsimp only [St.put]
  refine ae rfl (cn rfl rfl rfl zG rfl rfl (by rfl) ?_)
  refine yN ?_
  dsimp only [St.put]
  refine K8 _ ?_
  refine fq (i := 11) rfl zG zC ?_
  dsimp only
  refine yS fun _ K9 => ?_
  refine yR ?_
  refine yF rfl rfl rfl rfl ?_
  refine yL rfl rfl rfl ?_
  refine yE rfl rfl rfl ?_
  try dsimp only [St.put]
  refine ae rfl (ba rfl rfl rfl (yo b x) ?_)
  refine yM rfl rfl ?_
  refine aa rfl (j8 rfl rfl rfl) ?_
  refine yN ?_
  dsimp only [St.put]
  refine K9 _ ?_
  refine am rfl (fun hc => ?_) (fun hc => ?_)
  ·have hyes : em b x = (i : Int) := of_decide_eq_true hc
   refine yS fun _ K10 => ?_
   refine yR ?_
   refine yM rfl rfl ?_
   refine yF rfl rfl rfl rfl ?_
   refine yL rfl rfl rfl ?_
   refine yE rfl rfl rfl ?_
   try dsimp only [St.put]
   refine ae rfl (ba rfl rfl rfl (ub2 b x) ?_)
   refine aa rfl (bg rfl rfl (List.length_map _)) ?_
   refine aa rfl (bp rfl rfl rfl (by omega)) ?_
   refine yA rfl rfl ?_
   refine yN ?_
   dsimp only [St.put]
   refine K10 _ ?_
   refine yR ?_
   refine yM rfl rfl ?_
   refine yM rfl rfl ?_
   refine aa rfl (ov rfl rfl) ?_
   refine yF rfl rfl rfl rfl ?_
   refine yL rfl rfl rfl ?_
   refine yM rfl rfl ?_
   refine aa rfl (bn rfl rfl rfl rfl (bi (by assumption)) (Enc.len _)) ?_
   refine yL rfl rfl rfl ?_
   refine aa rfl (bg rfl rfl (List.length_map _)) ?_
   refine aa rfl (bp rfl rfl rfl (by omega)) ?_
   refine yA rfl rfl ?_
   refine yN ?_
   dsimp only [St.put]
   refine K7 _ ?_
   refine yR ?_
   refine aa rfl (bp rfl rfl rfl (by omega)) ?_
   refine yM rfl rfl ?_
   refine yN ?_
   dsimp only [St.put]
   have e1 := mp (g := dl b (i : Int)) hx
   have e2 := mp (g := dz p.text b (i : Int)) hx
   first
   | (have z : em b x = (i : Int) := hyes
      rw [show ((ct (p.pages.take k) (dl b (i : Int)) : Nat) : Int) + ((dm b x).length : Int) = ((ct (p.pages.take (k + 1)) (dl b (i : Int)) : Nat) : Int) by rw [e1]; unfold dl; rw [decide_eq_true z, cond_true]; rfl, show ((ct (p.pages.take k) (dz p.text b (i : Int)) : Nat) : Int) + ((eb p.text x).length : Int) = ((ct (p.pages.take (k + 1)) (dz p.text b (i : Int)) : Nat) : Int) by rw [e2]; unfold dz; rw [decide_eq_true z, cond_true]; rfl]
      exact ⟨k + 1, by omega, by omega, ⟨⟨rfl, rfl⟩, zF, zB, zN, zX⟩⟩)
   | (have z : ¬ em b x = (i : Int) := hno
      rw [show ct (p.pages.take k) (dl b (i : Int)) = ct (p.pages.take (k + 1)) (dl b (i : Int)) by rw [e1]; unfold dl; rw [decide_eq_false z]; rfl, show ct (p.pages.take k) (dz p.text b (i : Int)) = ct (p.pages.take (k + 1)) (dz p.text b (i : Int)) by rw [e2]; unfold dz; rw [decide_eq_false z]; rfl]
      exact ⟨k + 1, by omega, by omega, ⟨⟨rfl, rfl⟩, zF, zB, zN, zX⟩⟩)
  have hno : ¬ em b x = (i : Int) := of_decide_eq_false hc
  refine aw ?_
  refine K7 _ ?_
  refine yR ?_
  refine aa rfl (bp rfl rfl rfl (by omega)) ?_
  refine yM rfl rfl ?_
  refine yN ?_
  dsimp only [St.put]
  have e1 := mp (g := dl b (i : Int)) hx
  have e2 := mp (g := dz p.text b (i : Int)) hx
  first
  | (have z : em b x = (i : Int) := hyes
     rw [show ((ct (p.pages.take k) (dl b (i : Int)) : Nat) : Int) + ((dm b x).length : Int) = ((ct (p.pages.take (k + 1)) (dl b (i : Int)) : Nat) : Int) by rw [e1]; unfold dl; rw [decide_eq_true z, cond_true]; rfl, show ((ct (p.pages.take k) (dz p.text b (i : Int)) : Nat) : Int) + ((eb p.text x).length : Int) = ((ct (p.pages.take (k + 1)) (dz p.text b (i : Int)) : Nat) : Int) by rw [e2]; unfold dz; rw [decide_eq_true z, cond_true]; rfl]
     exact ⟨k + 1, by omega, by omega, ⟨⟨rfl, rfl⟩, zF, zB, zN, zX⟩⟩)
  | (have z : ¬ em b x = (i : Int) := hno
     rw [show ct (p.pages.take k) (dl b (i : Int)) = ct (p.pages.take (k + 1)) (dl b (i : Int)) by rw [e1]; unfold dl; rw [decide_eq_false z]; rfl, show ct (p.pages.take k) (dz p.text b (i : Int)) = ct (p.pages.take (k + 1)) (dz p.text b (i : Int)) by rw [e2]; unfold dz; rw [decide_eq_false z]; rfl]
     exact ⟨k + 1, by omega, by omega, ⟨⟨rfl, rfl⟩, zF, zB, zN, zX⟩⟩)
 replace hc := of_decide_eq_false hc
 obtain rfl : k = p.pages.length := by omega
 rw [el (Nat.le_refl p.pages.length)]
 refine cr ?_
 refine K3 _ ?_
 refine yS fun _ K11 => ?_
 refine et [(0, none), (1, none), (2, none), (3, none), (4, none), (5, none), (6, none), (7, none), (9, none), (8, none), (10, none), (11, none), (12, none), (13, none), (14, none), (15, none)] (fun i => [8, 12].contains i) (fun i => [8, 12].contains i) (fun i => [0, 1, 2, 4, 5, 6, 9, 10, 11, 13, 14, 15].contains i) [] (by kernel_rfl) (by kernel_rfl) ?_
 refine xM rfl rfl rfl rfl rfl ?_
 refine af rfl rfl rfl rfl (we rfl rfl rfl (by omega)) ?_
 refine af rfl rfl rfl rfl (cj rfl rfl rfl) ?_
 try dsimp only [St.put]
 refine ar rfl rfl rfl rfl (br rfl rfl) ?_
 refine xM rfl rfl rfl rfl rfl ?_
 refine af rfl rfl rfl rfl (ov rfl rfl) ?_
 refine af rfl rfl rfl rfl (cj rfl rfl rfl) ?_
 try dsimp only [St.put]
 refine ar rfl rfl rfl rfl (c := val p) (i0 (cs := k7 p) rfl rfl (show 4 ≤ 7 by decide)) ?_
 refine xM rfl rfl rfl rfl rfl ?_
 refine g9 ?_
 try dsimp only [St.put]
 refine fe rfl rfl rfl rfl (ba rfl rfl rfl (p7 b p) ?_)
 try dsimp only [St.put]
 refine ed rfl rfl rfl rfl (bn rfl rfl rfl rfl (bi (by assumption)) (Enc.len _)) ?_
 refine ed rfl rfl rfl rfl (cj rfl rfl rfl) ?_
 try dsimp only [St.put]
 refine fe rfl rfl rfl rfl (SStep.e' (D := fun _ => True) (br rfl rfl) ?_)
 refine ed rfl rfl rfl rfl (f9 rfl rfl rfl (by omega)) ?_
 refine ed rfl rfl rfl rfl (zj rfl rfl rfl (by omega) (by omega)) ?_
 refine ed rfl rfl rfl rfl (fw rfl (by constructor)) ?_
 refine g8 ?_
 dsimp only [St.put]
 rw [show (100 * ((ct p.pages (dl b (i : Int)) : Nat) : Int)) / (100 - r.miss) = ml p b i by unfold ml; rw [hmr]]
 have hbd := xl h b i
 refine K11 _ ?_
 refine yS fun _ K12 => ?_
 refine yR ?_
 refine yM rfl rfl ?_
 refine yM rfl rfl ?_
 refine yM rfl rfl ?_
 refine aa rfl (f9 rfl rfl rfl (by omega)) ?_
 refine yA rfl rfl ?_
 refine yA rfl rfl ?_
 refine yN ?_
 dsimp only [St.put]
 refine K12 _ ?_
 refine aq ?_
 refine mh rfl (by constructor) (by constructor) zN zS ?_ ?_
 ·rfl
 exact vi (by unfold jv; rfl)
end Go.Proofs.YtbbdginipiljdaaGreatDoor
namespace Go.AB
open Go Go.RowKit
open Go.AB.Enc (cells)
open Go.PB (az aj PlaceD bj bl bk bw av ai c6 cv dj di)
theorem ucb {p : ai} (h : ey p) {j : Nat} {x : av} (hx : p.pages[j]? = some x) {k : Nat} (hk : k < (c5 p x).length) : ∃ zn : Nat, (c5 p x)[k]? = some (zn : Int) ∧ zn ≤ 6 := by
 have hp := pageB_true.1 (h.page j x hx)
 have h1 := hp.fst
 have h2 := hp.snd
 have h3 := h.nf
 have h4 := h.ns
 obtain ⟨z, hz⟩ : ∃ z, (c5 p x)[k]? = some z := ⟨_, List.getElem?_eq_getElem hk⟩
 have hm := List.mem_of_getElem? hz
 have hb : 0 ≤ z ∧ z ≤ 6 := by
  unfold c5 at hm
  rw [List.mem_append] at hm
  rcases hm with hm | hm
  ·by_cases q : 0 ≤ x.fst
   ·rw [decide_eq_true q, cond_true, List.mem_singleton] at hm; omega
   rw [decide_eq_false q] at hm; cases hm
  by_cases q : 0 ≤ x.snd
  ·rw [decide_eq_true q, cond_true, List.mem_singleton] at hm; omega
  rw [decide_eq_false q] at hm; cases hm
 exact ⟨z.toNat, by rw [hz]; congr 1; omega, by omega⟩
theorem qz (p : ai) (x : av) : (c5 p x).length ≤ 2 := by
 unfold c5
 rw [List.length_append]
 cases decide (0 ≤ x.fst) <;> cases decide (0 ≤ x.snd) <;> simp
end Go.AB
namespace Go.Proofs.YtbbdginipiljdaaGreatDoor
set_option maxRecDepth 10000
open Go.RowKit Go.AB
open Go.AB.Enc (cells)
open Go.PB (az aj PlaceD bj bl bk bw av ai c6 cv dj di)
theorem yz (p : ai) (j : Nat) (x : av) (h : ey p) (hx : p.pages[j]? = some x) : Pure Tryz.prog 80 [val p, .v (.int .i64 (j : Int))] (lst (c5 p x)) := by
 refine cw Tryz.func80 rfl (fun m => (cc _ _)) fun G nx => ?_
 simp only [Tryz.ntmps80, List.length_cons, List.length_nil, Nat.reduceAdd, Nat.reduceSub]
 refine bx fun hlt => ?_
 dsimp only at hlt
 have hjl := (List.getElem?_eq_some_iff.1 hx).1
 have hp := pageB_true.1 (h.page j x hx)
 have hp1 := hp.fst
 have hp2 := hp.snd
 have hn1 := h.nf
 have hn2 := h.ns
 have hnp := h.np
 refine yS fun _ K1 => ?_
 refine yR ?_
 try dsimp only [St.put]
 refine yB rfl rfl rfl ?_
 refine yA rfl rfl ?_
 refine yN ?_
 dsimp only [St.put]
 refine K1 _ ?_
 refine yS fun _ K2 => ?_
 refine yR ?_
 refine yA rfl rfl ?_
 refine yN ?_
 dsimp only [St.put]
 refine K2 _ ?_
 refine lk 5 3 1 rfl (by decide) ?_
 dsimp only [List.set_cons_zero, List.set_cons_succ]
 refine yS fun _ K3 => ?_
 refine yS fun _ K4 => ?_
 refine yR ?_
 refine yF rfl rfl rfl rfl ?_
 refine yL rfl rfl rfl ?_
 refine yM rfl rfl ?_
 refine aa rfl (bn rfl rfl rfl rfl (bi (by assumption)) (Enc.len _)) ?_
 refine yF rfl rfl rfl rfl ?_
 refine yL rfl rfl rfl ?_
 refine yA rfl rfl ?_
 refine yN ?_
 dsimp only [St.put]
 refine K4 _ ?_
 refine yS fun _ K5 => ?_
 refine yR ?_
 refine yM rfl rfl ?_
 refine aa rfl (l5 rfl rfl rfl) ?_
 refine yN ?_
 dsimp only [St.put]
 refine K5 _ ?_
 refine am rfl (fun hc => ?_) (fun hc => ?_)
 ·have hA : (bif decide (0 ≤ x.fst) then [x.fst] else []) = [x.fst] := by rw [hc]; rfl
  refine yR ?_
  refine yM rfl rfl ?_
  refine yM rfl rfl ?_
  try dsimp only [St.put]
  refine ae rfl (eg rfl rfl rfl (by decide) (by decide) zR (by decide) ?_)
  try dsimp only [St.put]
  refine ae rfl (ib (xs := ([] : List Int)) [x.fst] rfl rfl zG rfl rfl rfl zA ?_ zA)
  refine yA rfl rfl ?_
  refine yN ?_
  dsimp only [St.put]
  refine K3 _ ?_
  refine yS fun _ K6 => ?_
  refine yS fun _ K7 => ?_
  refine yR ?_
  refine yF rfl rfl rfl rfl ?_
  refine yL rfl rfl rfl ?_
  refine yM rfl rfl ?_
  refine aa rfl (bn rfl rfl rfl rfl (bi (by assumption)) (Enc.len _)) ?_
  refine yF rfl rfl rfl rfl ?_
  refine yL rfl rfl rfl ?_
  refine yA rfl rfl ?_
  refine yN ?_
  dsimp only [St.put]
  refine K7 _ ?_
  refine yS fun _ K8 => ?_
  refine yR ?_
  refine yM rfl rfl ?_
  refine aa rfl (l5 rfl rfl rfl) ?_
  refine yN ?_
  dsimp only [St.put]
  refine K8 _ ?_
  refine am rfl (fun hc => ?_) (fun hc => ?_)
  ·have hB : (bif decide (0 ≤ x.snd) then [(p.firsts.length : Int) + x.snd] else []) = [(p.firsts.length : Int) + x.snd] := by rw [hc]; rfl
   refine yR ?_
   refine yM rfl rfl ?_
   refine yF rfl rfl rfl rfl ?_
   refine yL rfl rfl rfl ?_
   refine aa rfl (bg rfl rfl (List.length_map _)) ?_
   refine yM rfl rfl ?_
   refine aa rfl (bp rfl rfl rfl (by omega)) ?_
   try dsimp only [St.put]
   refine ae rfl (eg rfl rfl rfl (by decide) (by decide) zR (by decide) ?_)
   try dsimp only [St.put]
   refine ae rfl (ib (xs := ([] ++ [x.fst] : List Int)) [(p.firsts.length : Int) + x.snd] rfl rfl zG rfl rfl rfl zA ?_ zA)
   refine yA rfl rfl ?_
   refine yN ?_
   dsimp only [St.put]
   refine K6 _ ?_
   refine yS fun _ K9 => ?_
   refine yR ?_
   refine yM rfl rfl ?_
   refine yA rfl rfl ?_
   refine yN ?_
   dsimp only [St.put]
   refine K9 _ ?_
   refine aq ?_
   refine lj rfl (du (by constructor)) zN zS ?_
   unfold c5
   rw [hA, hB]
   exact zW
  have hB : (bif decide (0 ≤ x.snd) then [(p.firsts.length : Int) + x.snd] else []) = [] := by rw [hc]; rfl
  refine aw ?_
  refine K6 _ ?_
  refine yS fun _ K10 => ?_
  refine yR ?_
  refine yM rfl rfl ?_
  refine yA rfl rfl ?_
  refine yN ?_
  dsimp only [St.put]
  refine K10 _ ?_
  refine aq ?_
  refine lj rfl (du (by constructor)) zN zS ?_
  unfold c5
  rw [hA, hB]
  exact zW
 have hA : (bif decide (0 ≤ x.fst) then [x.fst] else []) = [] := by rw [hc]; rfl
 refine aw ?_
 refine K3 _ ?_
 refine yS fun _ K11 => ?_
 refine yS fun _ K12 => ?_
 refine yR ?_
 refine yF rfl rfl rfl rfl ?_
 refine yL rfl rfl rfl ?_
 refine yM rfl rfl ?_
 refine aa rfl (bn rfl rfl rfl rfl (bi (by assumption)) (Enc.len _)) ?_
 refine yF rfl rfl rfl rfl ?_
 refine yL rfl rfl rfl ?_
 refine yA rfl rfl ?_
 refine yN ?_
 dsimp only [St.put]
 refine K12 _ ?_
 refine yS fun _ K13 => ?_
 refine yR ?_
 refine yM rfl rfl ?_
 refine aa rfl (l5 rfl rfl rfl) ?_
 refine yN ?_
 dsimp only [St.put]
 refine K13 _ ?_
 refine am rfl (fun hc => ?_) (fun hc => ?_)
 ·have hB : (bif decide (0 ≤ x.snd) then [(p.firsts.length : Int) + x.snd] else []) = [(p.firsts.length : Int) + x.snd] := by rw [hc]; rfl
  refine yR ?_
  refine yM rfl rfl ?_
  refine yF rfl rfl rfl rfl ?_
  refine yL rfl rfl rfl ?_
  refine aa rfl (bg rfl rfl (List.length_map _)) ?_
  refine yM rfl rfl ?_
  refine aa rfl (bp rfl rfl rfl (by omega)) ?_
  try dsimp only [St.put]
  refine ae rfl (eg rfl rfl rfl (by decide) (by decide) zR (by decide) ?_)
  try dsimp only [St.put]
  refine ae rfl (ib (xs := ([] : List Int)) [(p.firsts.length : Int) + x.snd] rfl rfl zG rfl rfl rfl zA ?_ zA)
  refine yA rfl rfl ?_
  refine yN ?_
  dsimp only [St.put]
  refine K11 _ ?_
  refine yS fun _ K14 => ?_
  refine yR ?_
  refine yM rfl rfl ?_
  refine yA rfl rfl ?_
  refine yN ?_
  dsimp only [St.put]
  refine K14 _ ?_
  refine aq ?_
  refine lj rfl (du (by constructor)) zN zS ?_
  unfold c5
  rw [hA, hB]
  exact zW
 have hB : (bif decide (0 ≤ x.snd) then [(p.firsts.length : Int) + x.snd] else []) = [] := by rw [hc]; rfl
 refine aw ?_
 refine K11 _ ?_
 refine yS fun _ K15 => ?_
 refine yR ?_
 refine yM rfl rfl ?_
 refine yA rfl rfl ?_
 refine yN ?_
 dsimp only [St.put]
 refine K15 _ ?_
 refine aq ?_
 refine lj rfl (du (by constructor)) zN zS ?_
 unfold c5
 rw [hA, hB]
 exact zW
set_option maxHeartbeats 1000000 in
theorem ucd (p : ai) (R C : Nat → Int) (s : Nat) (h : ey p) (hB : Bd p R C) (hs : s ≤ 1000) : Pure Tryz.prog 59 [val p, val (pd p R C), .v (.int .i64 (s : Int))] (.v (.int .i64 ((bu p).f R C fun i => s.testBit i))) := by
 refine cw Tryz.func59 rfl (fun m => .v) fun G nx => ?_
 simp only [Tryz.ntmps59, List.length_cons, List.length_nil, Nat.reduceAdd, Nat.reduceSub]
 refine bx fun hlt => ?_
 dsimp only at hlt
 have hnr := hB.nr
 have hnp := hB.np
 have hl1 := gk (ax p) R
 have hl2 := gk p.pages.length C
 refine yS fun _ K1 => ?_
 refine yR ?_
 try dsimp only [St.put]
 refine yB rfl rfl rfl ?_
 try dsimp only [St.put]
 refine yB rfl rfl rfl ?_
 refine yA rfl rfl ?_
 refine yN ?_
 dsimp only [St.put]
 refine K1 _ ?_
 refine yS fun _ K2 => ?_
 refine yR ?_
 refine yA rfl rfl ?_
 refine yN ?_
 dsimp only [St.put]
 refine K2 _ ?_
 refine yS fun _ K3 => ?_
 refine yS fun _ K4 => ?_
 refine yR ?_
 refine yA rfl rfl ?_
 refine yN ?_
 dsimp only [St.put]
 refine K4 _ ?_
 refine ay ?_
 refine ci 13 ?_
 refine zQ ?_
 refine c4 (G) zX ?_
 dsimp only
 refine cz (X := Nat) (fun i => i ≤ ax p) (fun i => ax p - i) (fun i => [(7, .v (.int .i64 (fR R (fun i => s.testBit i) i))), (8, .v (.int .i64 (i : Int)))]) (fun i G' => G') 0 rfl ?_ ?_ (fun _ _ h => h) ?_ ?_ ?_
 ·exact Nat.zero_le _
 ·exact zF
 ·rintro i hI
  exact zL
 ·exact fun _ _ _ _ h => .inl h
 rintro i hI
 dsimp only at hI ⊢
 refine yS fun _ K5 => ?_
 refine yS fun _ K6 => ?_
 refine yR ?_
 refine yM rfl rfl ?_
 refine yF rfl rfl rfl rfl ?_
 refine yL rfl rfl rfl ?_
 refine aa rfl (bg rfl rfl (List.length_map _)) ?_
 refine aa rfl (cg rfl rfl rfl) ?_
 refine yN ?_
 dsimp only [St.put]
 refine K6 _ ?_
 refine am rfl (fun hc => ?_) (fun hc => ?_)
 ·replace hc := of_decide_eq_true hc
  have hi : i < ax p := by
   have : (i : Int) < ((bf (ax p) R).length : Int) := hc
   rw [hl1] at this
   omega
  have hRi := jq R hi
  have hbd := ue hB (fun i => s.testBit i) i (by omega)
  have hrb := hB.r i
  refine aw ?_
  refine K5 _ ?_
  refine yS fun _ K7 => ?_
  refine ay ?_
  refine yS fun _ K8 => ?_
  refine yR ?_
  refine yM rfl rfl ?_
  refine yM rfl rfl ?_
  refine aa rfl (re (m := s) (n := i) rfl rfl rfl (by show i ≤ 64; omega) (by show (s : Int) ≤ 9223372036854775807; omega) (by decide)) ?_
  refine aa rfl (rg (m := s / 2 ^ i) rfl rfl rfl (Nat.lt_of_le_of_lt (Nat.div_le_self _ _) (by show s < 2 ^ 64; omega)) (by decide)) ?_
  refine aa rfl (j8 rfl rfl rfl) ?_
  refine yN ?_
  dsimp only [St.put]
  refine K8 _ ?_
  refine am rfl (fun hc => ?_) (fun hc => ?_)
  ·have hb : s.testBit i = true := bit_eq.1 (of_decide_eq_true hc)
   refine yR ?_
   refine yM rfl rfl ?_
   refine yF rfl rfl rfl rfl ?_
   refine yL rfl rfl rfl ?_
   refine yM rfl rfl ?_
   refine aa rfl (bn rfl rfl rfl rfl (bi (by assumption)) (Enc.len _)) ?_
   refine yL rfl rfl rfl ?_
   refine aa rfl (bp rfl rfl rfl (by omega)) ?_
   refine yA rfl rfl ?_
   refine yN ?_
   dsimp only [St.put]
   refine K7 _ ?_
   refine yR ?_
   refine yM rfl rfl ?_
   refine aa rfl (bp rfl rfl rfl (by omega)) ?_
   refine yA rfl rfl ?_
   refine yN ?_
   dsimp only [St.put]
   have e := uaf R (fun i => s.testBit i) i
   first
   | (have z : s.testBit i = true := hb
      rw [show (bif s.testBit i then R i else 0) = R i by rw [z]; rfl] at e
      rw [← e]
      exact ⟨i + 1, by omega, by omega, ⟨⟨rfl, rfl⟩, zF, zB, zN, zX⟩⟩)
   | (have z : s.testBit i = false := hb
      rw [show (bif s.testBit i then R i else 0) = 0 by rw [z]; rfl, Int.add_zero] at e
      rw [← e]
      exact ⟨i + 1, by omega, by omega, ⟨⟨rfl, rfl⟩, zF, zB, zN, zX⟩⟩)
  have hb : s.testBit i = false := by
   have := of_decide_eq_false hc
   rw [bit_eq, Bool.not_eq_true] at this
   exact this
  refine aw ?_
  refine K7 _ ?_
  refine yR ?_
  refine yM rfl rfl ?_
  refine aa rfl (bp rfl rfl rfl (by omega)) ?_
  refine yA rfl rfl ?_
  refine yN ?_
  dsimp only [St.put]
  have e := uaf R (fun i => s.testBit i) i
  first
  | (have z : s.testBit i = true := hb
     rw [show (bif s.testBit i then R i else 0) = R i by rw [z]; rfl] at e
     rw [← e]
     exact ⟨i + 1, by omega, by omega, ⟨⟨rfl, rfl⟩, zF, zB, zN, zX⟩⟩)
  | (have z : s.testBit i = false := hb
     rw [show (bif s.testBit i then R i else 0) = 0 by rw [z]; rfl, Int.add_zero] at e
     rw [← e]
     exact ⟨i + 1, by omega, by omega, ⟨⟨rfl, rfl⟩, zF, zB, zN, zX⟩⟩)
 replace hc := of_decide_eq_false hc
 obtain rfl : i = ax p := by
  have : ¬ (i : Int) < ((bf (ax p) R).length : Int) := hc
  rw [hl1] at this
  omega
 have hfr := ue hB (fun i => s.testBit i) _ (Nat.le_refl (ax p))
 obtain ⟨FR, hFR⟩ : ∃ FR, fR R (fun i => s.testBit i) (ax p) = FR := ⟨_, rfl⟩
 rw [hFR] at hfr
 refine cr ?_
 refine K3 _ ?_
 refine yS fun _ K9 => ?_
 refine yS fun _ K10 => ?_
 refine yR ?_
 refine yA rfl rfl ?_
 refine yN ?_
 dsimp only [St.put]
 rw [hFR, show FR = FR + fC p C (fun i => s.testBit i) 0 by show FR = FR + 0; omega]
 refine K10 _ ?_
 refine ay ?_
 refine ci 13 ?_
 refine zQ ?_
 refine c4 (G) zX ?_
 dsimp only
 refine cz (X := Nat) (fun j => j ≤ p.pages.length) (fun j => p.pages.length - j) (fun j => [(7, .v (.int .i64 (FR + fC p C (fun i => s.testBit i) j))), (9, .v (.int .i64 (j : Int))), (10, .any), (11, .any), (12, .any)]) (fun j G' => G') 0 rfl ?_ ?_ (fun _ _ h => h) ?_ ?_ ?_
 ·exact Nat.zero_le _
 ·exact zF
 ·rintro j hI
  exact zL
 ·exact fun _ _ _ _ h => .inl h
 rintro j hJ
 dsimp only at hJ ⊢
 refine yS fun _ K11 => ?_
 refine yS fun _ K12 => ?_
 refine yR ?_
 refine yM rfl rfl ?_
 refine yF rfl rfl rfl rfl ?_
 refine yL rfl rfl rfl ?_
 refine aa rfl (bg rfl rfl (List.length_map _)) ?_
 refine aa rfl (cg rfl rfl rfl) ?_
 refine yN ?_
 dsimp only [St.put]
 refine K12 _ ?_
 refine am rfl (fun hc => ?_) (fun hc => ?_)
 ·replace hc := of_decide_eq_true hc
  have hj : j < p.pages.length := by
   have : (j : Int) < ((bf p.pages.length C).length : Int) := hc
   rw [hl2] at this
   omega
  obtain ⟨x, hx⟩ : ∃ x, p.pages[j]? = some x := da hj
  have hCj := jq C hj
  have hcb := hB.c j
  have hfc := uag hB (fun i => s.testBit i) j (by omega)
  have hrl := qz p x
  have hhit := uea hx fun i => s.testBit i
  refine aw ?_
  refine K11 _ ?_
  refine yS fun _ K13 => ?_
  refine ay ?_
  refine yS fun _ K14 => ?_
  refine yR ?_
  refine yA rfl rfl ?_
  refine yN ?_
  dsimp only [St.put]
  refine K14 _ ?_
  refine yS fun _ K15 => ?_
  refine yR ?_
  refine yE rfl rfl rfl ?_
  refine yM rfl rfl ?_
  try dsimp only [St.put]
  refine ae rfl (ba rfl rfl rfl (yz p j x h hx) ?_)
  refine yA rfl rfl ?_
  refine yN ?_
  dsimp only [St.put]
  refine K15 _ ?_
  refine yS fun _ K16 => ?_
  refine yS fun _ K17 => ?_
  refine yR ?_
  refine yA rfl rfl ?_
  refine yN ?_
  dsimp only [St.put]
  refine K17 _ ?_
  refine ay ?_
  refine ci 13 ?_
  refine zQ ?_
  refine c4 (G) zX ?_
  dsimp only
  refine cz (X := Nat × Bool) (fun y => y.1 ≤ (c5 p x).length ∧ ((c5 p x).take y.1).any (fun z => s.testBit z.toNat) = y.2) (fun y => (c5 p x).length - y.1) (fun y => [(10, .v (.bool y.2)), (12, .v (.int .i64 (y.1 : Int)))]) (fun y G' => G') (0, false) rfl ?_ ?_ (fun _ _ h => h) ?_ ?_ ?_
  ·exact ⟨Nat.zero_le _, rfl⟩
  ·exact zF
  ·rintro ⟨k, d⟩ hI
   exact zL
  ·exact fun _ _ _ _ h => .inl h
  rintro ⟨k, d⟩ hM
  dsimp only at hM ⊢
  refine yS fun _ K18 => ?_
  refine yS fun _ K19 => ?_
  refine yR ?_
  refine yM rfl rfl ?_
  refine yM rfl rfl ?_
  refine aa rfl (bg rfl rfl (List.length_map _)) ?_
  refine aa rfl (cg rfl rfl rfl) ?_
  refine yN ?_
  dsimp only [St.put]
  refine K19 _ ?_
  refine am rfl (fun hc => ?_) (fun hc => ?_)
  ·replace hc := of_decide_eq_true hc
   obtain ⟨zn, hz, hz6⟩ := ucb h hx (k := k) (by omega)
   refine aw ?_
   refine K18 _ ?_
   refine yS fun _ K20 => ?_
   refine ay ?_
   refine yR ?_
   refine yM rfl rfl ?_
   refine yM rfl rfl ?_
   refine ei (fun hs => ?_) (fun hs => ?_)
   ·have s2 := hs
    refine yK rfl ?_
    refine yK rfl ?_
    refine yK rfl ?_
    refine yK rfl ?_
    refine yK rfl ?_
    refine yK rfl ?_
    refine yK rfl ?_
    refine yK rfl ?_
    refine aa rfl (cy rfl rfl (by constructor)) ?_
    refine yA rfl rfl ?_
    refine yN ?_
    dsimp only [St.put]
    refine K20 _ ?_
    refine yR ?_
    refine yM rfl rfl ?_
    refine aa rfl (bp rfl rfl rfl (by omega)) ?_
    refine yA rfl rfl ?_
    refine yN ?_
    dsimp only [St.put]
    have hst := ry (p := fun z : Int => s.testBit z.toNat) hz
    rw [hM.2, Int.toNat_natCast] at hst
    first
    | (have e1 : d = true := s2
       rw [e1, Bool.true_or] at hst
       exact ⟨(k + 1, true), by (dsimp only; omega), ⟨by (dsimp only; omega), hst⟩, ⟨⟨rfl, rfl⟩, zF, zB, zN, zX⟩⟩)
    | (have e1 : d = false := s2
       rw [e1, Bool.false_or, show s.testBit zn = decide (((s / 2 ^ zn % 2 : Nat) : Int) = 1) by rw [Bool.eq_iff_iff, decide_eq_true_eq, bit_eq]] at hst
       exact ⟨(k + 1, decide (((s / 2 ^ zn % 2 : Nat) : Int) = 1)), by (dsimp only; omega), ⟨by (dsimp only; omega), hst⟩, ⟨⟨rfl, rfl⟩, zF, zB, zN, zX⟩⟩)
   have s2 := hs
   refine yM rfl rfl ?_
   refine yM rfl rfl ?_
   refine yM rfl rfl ?_
   refine aa rfl (bn rfl rfl rfl rfl (bi (by assumption)) (Enc.len _)) ?_
   refine yL rfl rfl rfl ?_
   refine aa rfl (re (m := s) (n := zn) rfl rfl rfl (by show zn ≤ 64; omega) (by show (s : Int) ≤ 9223372036854775807; omega) (by decide)) ?_
   refine aa rfl (rg (m := s / 2 ^ zn) rfl rfl rfl (Nat.lt_of_le_of_lt (Nat.div_le_self _ _) (by show s < 2 ^ 64; omega)) (by decide)) ?_
   refine aa rfl (j8 rfl rfl rfl) ?_
   refine aa rfl (cm rfl rfl (by constructor)) ?_
   refine yA rfl rfl ?_
   refine yN ?_
   dsimp only [St.put]
   refine K20 _ ?_
   refine yR ?_
   refine yM rfl rfl ?_
   refine aa rfl (bp rfl rfl rfl (by omega)) ?_
   refine yA rfl rfl ?_
   refine yN ?_
   dsimp only [St.put]
   have hst := ry (p := fun z : Int => s.testBit z.toNat) hz
   rw [hM.2, Int.toNat_natCast] at hst
   first
   | (have e1 : d = true := s2
      rw [e1, Bool.true_or] at hst
      exact ⟨(k + 1, true), by (dsimp only; omega), ⟨by (dsimp only; omega), hst⟩, ⟨⟨rfl, rfl⟩, zF, zB, zN, zX⟩⟩)
   | (have e1 : d = false := s2
      rw [e1, Bool.false_or, show s.testBit zn = decide (((s / 2 ^ zn % 2 : Nat) : Int) = 1) by rw [Bool.eq_iff_iff, decide_eq_true_eq, bit_eq]] at hst
      exact ⟨(k + 1, decide (((s / 2 ^ zn % 2 : Nat) : Int) = 1)), by (dsimp only; omega), ⟨by (dsimp only; omega), hst⟩, ⟨⟨rfl, rfl⟩, zF, zB, zN, zX⟩⟩)
  replace hc := of_decide_eq_false hc
  have hd := hM.2
  rw [el (show (c5 p x).length ≤ k by omega), ← hhit] at hd
  refine cr ?_
  refine K16 _ ?_
  refine yS fun _ K21 => ?_
  refine yR ?_
  refine yM rfl rfl ?_
  refine aa rfl (dr rfl rfl) ?_
  refine yN ?_
  dsimp only [St.put]
  refine K21 _ ?_
  refine am rfl (fun hc => ?_) (fun hc => ?_)
  ·have hh : (bu p).hit (fun i => s.testBit i) j = false := hd.trans (by simpa using hc)
   refine yR ?_
   refine yM rfl rfl ?_
   refine yF rfl rfl rfl rfl ?_
   refine yL rfl rfl rfl ?_
   refine yM rfl rfl ?_
   refine aa rfl (bn rfl rfl rfl rfl (bi (by assumption)) (Enc.len _)) ?_
   refine yL rfl rfl rfl ?_
   refine aa rfl (bp rfl rfl rfl (by omega)) ?_
   refine yA rfl rfl ?_
   refine yN ?_
   dsimp only [St.put]
   refine K13 _ ?_
   refine yR ?_
   refine yM rfl rfl ?_
   refine aa rfl (bp rfl rfl rfl (by omega)) ?_
   refine yA rfl rfl ?_
   refine yN ?_
   dsimp only [St.put]
   have e := xg p C (fun i => s.testBit i) j
   first
   | (have z : (bu p).hit (fun i => s.testBit i) j = true := hh
      rw [z, cond_true, Int.add_zero] at e
      rw [← e]
      exact ⟨j + 1, by omega, by omega, ⟨⟨rfl, rfl⟩, zF, zB, zN, zX⟩⟩)
   | (have z : (bu p).hit (fun i => s.testBit i) j = false := hh
      rw [z, cond_false] at e
      rw [Int.add_assoc, ← e]
      exact ⟨j + 1, by omega, by omega, ⟨⟨rfl, rfl⟩, zF, zB, zN, zX⟩⟩)
  have hh : (bu p).hit (fun i => s.testBit i) j = true := hd.trans (by simpa using hc)
  refine aw ?_
  refine K13 _ ?_
  refine yR ?_
  refine yM rfl rfl ?_
  refine aa rfl (bp rfl rfl rfl (by omega)) ?_
  refine yA rfl rfl ?_
  refine yN ?_
  dsimp only [St.put]
  have e := xg p C (fun i => s.testBit i) j
  first
  | (have z : (bu p).hit (fun i => s.testBit i) j = true := hh
     rw [z, cond_true, Int.add_zero] at e
     rw [← e]
     exact ⟨j + 1, by omega, by omega, ⟨⟨rfl, rfl⟩, zF, zB, zN, zX⟩⟩)
  | (have z : (bu p).hit (fun i => s.testBit i) j = false := hh
     rw [z, cond_false] at e
     rw [Int.add_assoc, ← e]
     exact ⟨j + 1, by omega, by omega, ⟨⟨rfl, rfl⟩, zF, zB, zN, zX⟩⟩)
 replace hc := of_decide_eq_false hc
 obtain rfl : j = p.pages.length := by
  have : ¬ (j : Int) < ((bf p.pages.length C).length : Int) := hc
  rw [hl2] at this
  omega
 refine cr ?_
 refine K9 _ ?_
 refine yS fun _ K22 => ?_
 refine yR ?_
 refine yM rfl rfl ?_
 refine yA rfl rfl ?_
 refine yN ?_
 dsimp only [St.put]
 refine K22 _ ?_
 refine aq ?_
 refine bh rfl (by constructor) zN zS ?_
 exact vi (by rw [uae, hFR])
end Go.Proofs.YtbbdginipiljdaaGreatDoor
namespace Go.Proofs.YtbbdginipiljdaaGreatDoor
set_option maxRecDepth 10000
open Go.RowKit Go.AB
open Go.AB.Enc (cells)
open Go.PB (az aj PlaceD bj bl bk bw av ai c6 cv dj di)
set_option maxHeartbeats 1000000 in
theorem vp (p : ai) (R C : Nat → Int) (h : ey p) (hB : Bd p R C) : Pure Tryz.prog 50 [val p, val (pd p R C)] (.v (.int .i64 ((bu p).most R C))) := by
 refine cw Tryz.func50 rfl (fun m => .v) fun G nx => ?_
 simp only [Tryz.ntmps50, List.length_cons, List.length_nil, Nat.reduceAdd, Nat.reduceSub]
 refine bx fun hlt => ?_
 dsimp only at hlt
 have hnr := hB.nr
 have hl1 := gk (ax p) R
 have h64 : 2 ^ ax p ≤ 2 ^ 6 := Nat.pow_le_pow_right (by omega) hnr
 have hpos : 0 < 2 ^ ax p := Nat.two_pow_pos _
 obtain ⟨g, hg⟩ : ∃ g : Nat → Int, (fun s => (bu p).f R C fun i => s.testBit i) = g := ⟨_, rfl⟩
 have hgs : ∀ s : Nat, (bu p).f R C (fun i => s.testBit i) = g s := fun s => congrFun hg s
 have hP : ∀ s : Nat, s ≤ 1000 → Pure Tryz.prog 59 [val p, val (pd p R C), .v (.int .i64 (s : Int))] (.v (.int .i64 (g s))) := fun s hs => by
  have := ucd p R C s h hB hs
  rwa [hgs] at this
 have hgb : ∀ s, -6000000 ≤ g s ∧ g s ≤ 14000000 := fun s => by rw [← hgs]; exact f_bd hB _
 refine yS fun _ K1 => ?_
 refine yR ?_
 try dsimp only [St.put]
 refine yB rfl rfl rfl ?_
 try dsimp only [St.put]
 refine yB rfl rfl rfl ?_
 refine yA rfl rfl ?_
 refine yN ?_
 dsimp only [St.put]
 refine K1 _ ?_
 refine yS fun _ K2 => ?_
 refine yR ?_
 refine yE rfl rfl rfl ?_
 refine yE rfl rfl rfl ?_
 try dsimp only [St.put]
 refine ae rfl (ba rfl rfl rfl (hP 0 (by omega)) ?_)
 refine yA rfl rfl ?_
 refine yN ?_
 dsimp only [St.put]
 rw [show g 0 = jl g 1 from (ukz g).symm]
 refine K2 _ ?_
 refine yS fun _ K3 => ?_
 refine yS fun _ K4 => ?_
 refine yR ?_
 refine yA rfl rfl ?_
 refine yN ?_
 dsimp only [St.put]
 refine K4 _ ?_
 refine ay ?_
 refine ci 7 ?_
 refine zQ ?_
 refine c4 (G) zX ?_
 dsimp only
 refine cz (X := Nat) (fun s => 1 ≤ s ∧ s ≤ 2 ^ ax p) (fun s => 2 ^ ax p - s) (fun s => [(5, .v (.int .i64 (jl g s))), (6, .v (.int .i64 (s : Int)))]) (fun s G' => G') 1 rfl ?_ ?_ (fun _ _ h => h) ?_ ?_ ?_
 ·exact ⟨Nat.le_refl _, hpos⟩
 ·exact zF
 ·rintro s hI
  exact zL
 ·exact fun _ _ _ _ h => .inl h
 rintro s hI
 dsimp only at hI ⊢
 refine yS fun _ K5 => ?_
 refine yS fun _ K6 => ?_
 refine yR ?_
 refine yM rfl rfl ?_
 refine yF rfl rfl rfl rfl ?_
 refine yL rfl rfl rfl ?_
 refine aa rfl (bg rfl rfl (List.length_map _)) ?_
 refine aa rfl (wc (n := (bf (ax p) R).length) rfl rfl rfl (by rw [hl1]; omega)) ?_
 refine aa rfl (cg rfl rfl rfl) ?_
 refine yN ?_
 dsimp only [St.put]
 refine K6 _ ?_
 refine am rfl (fun hc => ?_) (fun hc => ?_)
 ·replace hc := of_decide_eq_true hc
  have hlt : s < 2 ^ ax p := by
   have : (s : Int) < ((2 ^ (bf (ax p) R).length : Nat) : Int) := hc
   rw [hl1] at this
   omega
  have hmb := zo hgb s
  have hgb1 := hgb s
  refine aw ?_
  refine K5 _ ?_
  refine yS fun _ K7 => ?_
  refine ay ?_
  refine yR ?_
  refine yM rfl rfl ?_
  refine yE rfl rfl rfl ?_
  refine yE rfl rfl rfl ?_
  refine yM rfl rfl ?_
  try dsimp only [St.put]
  refine ae rfl (ba rfl rfl rfl (hP s (by omega)) ?_)
  refine aa rfl (wg rfl rfl rfl rfl) ?_
  refine yA rfl rfl ?_
  refine yN ?_
  dsimp only [St.put]
  refine K7 _ ?_
  refine yR ?_
  refine yM rfl rfl ?_
  refine aa rfl (bp rfl rfl rfl (by omega)) ?_
  refine yA rfl rfl ?_
  refine yN ?_
  dsimp only [St.put]
  rw [show min (jl g s) (g s) = jl g (s + 1) from rfl]
  exact ⟨s + 1, by omega, ⟨by omega, by omega⟩, ⟨⟨rfl, rfl⟩, zF, zB, zN, zX⟩⟩
 replace hc := of_decide_eq_false hc
 obtain rfl : s = 2 ^ ax p := by
  have : ¬ (s : Int) < ((2 ^ (bf (ax p) R).length : Nat) : Int) := hc
  rw [hl1] at this
  omega
 refine cr ?_
 refine K3 _ ?_
 refine yS fun _ K8 => ?_
 refine yR ?_
 refine yM rfl rfl ?_
 refine yA rfl rfl ?_
 refine yN ?_
 dsimp only [St.put]
 refine K8 _ ?_
 refine aq ?_
 refine bh rfl (by constructor) zN zS ?_
 exact vi (by unfold Net.most; rw [hg]; rfl)
end Go.Proofs.YtbbdginipiljdaaGreatDoor
namespace Go.AB
open Go Go.RowKit
open Go.AB.Enc (cells)
open Go.PB (az aj PlaceD bj bl bk)
theorem lt3 {a b c a' b' c' : Int} : fb [a, b, c] [a', b', c'] < 0 ↔ a < a' ∨ a = a' ∧ (b < b' ∨ b = b' ∧ c < c') := by
 rw [n4 (a := [a, b, c]) (b := [a', b', c']) rfl]; simp [ltW]
end Go.AB
namespace Go.Proofs.YtbbdginipiljdaaGreatDoor
set_option maxRecDepth 10000
open Go.RowKit Go.AB
open Go.AB.Enc (cells)
open Go.PB (az aj PlaceD bj bl bk)
theorem ugh (a b : PlaceD) : Pure Tryz.prog 121 [val a, val b] (.v (.bool (decide (fb (dh a) (dh b) < 0)))) := by
 refine cw Tryz.func121 rfl (fun m => .v) fun G nx => ?_
 simp only [Tryz.ntmps121, List.length_cons, List.length_nil, Nat.reduceAdd, Nat.reduceSub]
 refine bx fun hlt => ?_
 dsimp only at hlt
 refine yS fun _ K1 => ?_
 refine yR ?_
 try dsimp only [St.put]
 refine yB rfl rfl rfl ?_
 try dsimp only [St.put]
 refine yB rfl rfl rfl ?_
 refine yA rfl rfl ?_
 refine yN ?_
 dsimp only [St.put]
 refine K1 _ ?_
 refine yS fun _ K2 => ?_
 refine yS fun _ K3 => ?_
 refine yR ?_
 refine yF rfl rfl rfl rfl ?_
 refine yL rfl rfl rfl ?_
 refine yF rfl rfl rfl rfl ?_
 refine yL rfl rfl rfl ?_
 refine aa rfl (fl rfl rfl rfl) ?_
 refine yN ?_
 dsimp only [St.put]
 refine K3 _ ?_
 refine am rfl (fun hc => ?_) (fun hc => ?_)
 ·have h1 : a.ch ≠ b.ch := je hc
  refine yS fun _ K4 => ?_
  refine yR ?_
  refine yF rfl rfl rfl rfl ?_
  refine yL rfl rfl rfl ?_
  refine yF rfl rfl rfl rfl ?_
  refine yL rfl rfl rfl ?_
  refine aa rfl (cg rfl rfl rfl) ?_
  refine yA rfl rfl ?_
  refine yN ?_
  dsimp only [St.put]
  refine K4 _ ?_
  refine aq ?_
  refine bh rfl (by constructor) zN zS ?_
  exact vb (by rw [decide_eq_decide, dh, dh, lt3]; omega)
 have h1 : a.ch = b.ch := gq hc
 refine aw ?_
 refine K2 _ ?_
 refine yS fun _ K5 => ?_
 refine yS fun _ K6 => ?_
 refine yR ?_
 refine yF rfl rfl rfl rfl ?_
 refine yL rfl rfl rfl ?_
 refine yF rfl rfl rfl rfl ?_
 refine yL rfl rfl rfl ?_
 refine aa rfl (fl rfl rfl rfl) ?_
 refine yN ?_
 dsimp only [St.put]
 refine K6 _ ?_
 refine am rfl (fun hc => ?_) (fun hc => ?_)
 ·have h2 : a.ln ≠ b.ln := je hc
  refine yS fun _ K7 => ?_
  refine yR ?_
  refine yF rfl rfl rfl rfl ?_
  refine yL rfl rfl rfl ?_
  refine yF rfl rfl rfl rfl ?_
  refine yL rfl rfl rfl ?_
  refine aa rfl (cg rfl rfl rfl) ?_
  refine yA rfl rfl ?_
  refine yN ?_
  dsimp only [St.put]
  refine K7 _ ?_
  refine aq ?_
  refine bh rfl (by constructor) zN zS ?_
  exact vb (by rw [decide_eq_decide, dh, dh, lt3]; omega)
 have h2 : a.ln = b.ln := gq hc
 refine aw ?_
 refine K5 _ ?_
 refine yS fun _ K8 => ?_
 refine yR ?_
 refine yF rfl rfl rfl rfl ?_
 refine yL rfl rfl rfl ?_
 refine yF rfl rfl rfl rfl ?_
 refine yL rfl rfl rfl ?_
 refine aa rfl (cg rfl rfl rfl) ?_
 refine yA rfl rfl ?_
 refine yN ?_
 dsimp only [St.put]
 refine K8 _ ?_
 refine aq ?_
 refine bh rfl (by constructor) zN zS ?_
 exact vb (by rw [decide_eq_decide, dh, dh, lt3]; omega)
end Go.Proofs.YtbbdginipiljdaaGreatDoor
namespace Go.Proofs.YtbbdginipiljdaaGreatDoor
set_option maxRecDepth 10000
open Go.RowKit Go.AB
open Go.AB.Enc (cells)
open Go.PB (az aj PlaceD bj bl bk bw av ai c6 cv dj di)
set_option maxHeartbeats 1000000 in
theorem uch (t : aj) (x : av) (r : Int) (l : List PlaceD) (ht : dq t = true) : Pure Tryz.prog 108 [fa t, val x, .v (.int .i64 r), lst l] (.v (.bool (ie t x r l))) := by
 refine cw Tryz.func108 rfl (fun m => .v) fun G nx => ?_
 simp only [Tryz.ntmps108, List.length_cons, List.length_nil, Nat.reduceAdd, Nat.reduceSub]
 refine bx fun hlt => ?_
 dsimp only at hlt
 refine jz 3 (fun hfl => ?_)
 have hl0 := (fit_lst.1 hfl).1
 refine yS fun _ K1 => ?_
 refine yR ?_
 try dsimp only [St.put]
 refine yB rfl rfl rfl ?_
 try dsimp only [St.put]
 refine yB rfl rfl rfl ?_
 refine yA rfl rfl ?_
 refine yN ?_
 dsimp only [St.put]
 refine K1 _ ?_
 refine yS fun _ K2 => ?_
 refine yS fun _ K3 => ?_
 refine yR ?_
 refine yM rfl rfl ?_
 refine aa rfl (cg rfl rfl rfl) ?_
 refine ei (fun hs => ?_) (fun hs => ?_)
 ·have s1 : r < 0 := of_decide_eq_true hs
  refine yM rfl rfl ?_
  refine yM rfl rfl ?_
  refine aa rfl (bg rfl rfl (List.length_map _)) ?_
  refine aa rfl (iq rfl rfl rfl) ?_
  refine aa rfl (cy rfl rfl (by constructor)) ?_
  refine yN ?_
  dsimp only [St.put]
  refine K3 _ ?_
  refine am rfl (fun hc => ?_) (fun hc => ?_)
  ·have s2 : 0 < l.length := by
    have := of_decide_eq_true hc
    omega
   refine yS fun _ K4 => ?_
   refine yR ?_
   refine yA rfl rfl ?_
   refine yN ?_
   dsimp only [St.put]
   refine K4 _ ?_
   refine aq ?_
   refine bh rfl (by constructor) zN zS ?_
   exact vb (by
    have e1 : ¬ 0 ≤ r := by omega
    have e2 : l ≠ [] := fun e => by rw [e] at s2; exact absurd s2 (by simp)
    simp [ie, e1, e2])
  have s3 : (decide (0 ≤ r) || decide (l = [])) = true := by
   first
   | (rw [decide_eq_true (show 0 ≤ r by omega)]; rfl)
   | (have := of_decide_eq_false hc
      have : l = [] := List.eq_nil_of_length_eq_zero (by omega)
      simp [this])
  refine aw ?_
  refine K2 _ ?_
  refine yS fun _ K5 => ?_
  refine yS fun _ K6 => ?_
  refine yR ?_
  refine yA rfl rfl ?_
  refine yN ?_
  dsimp only [St.put]
  refine K6 _ ?_
  refine ay ?_
  refine ci 10 ?_
  refine zQ ?_
  refine c4 (G) zX ?_
  dsimp only
  refine cz (X := Nat) (fun i => i ≤ l.length ∧ dx t x l i = true) (fun i => l.length - i) (fun i => [(9, .v (.int .i64 (i : Int)))]) (fun i G' => G') 0 rfl ?_ ?_ (fun _ _ h => h) ?_ ?_ ?_
  ·exact ⟨Nat.zero_le _, rfl⟩
  ·exact zF
  ·rintro i hI
   exact zL
  ·exact fun _ _ _ _ h => .inl h
  rintro i hI
  dsimp only at hI ⊢
  refine yS fun _ K7 => ?_
  refine yS fun _ K8 => ?_
  refine yR ?_
  refine yM rfl rfl ?_
  refine yM rfl rfl ?_
  refine aa rfl (bg rfl rfl (List.length_map _)) ?_
  refine aa rfl (cg rfl rfl rfl) ?_
  refine yN ?_
  dsimp only [St.put]
  refine K8 _ ?_
  refine am rfl (fun hc => ?_) (fun hc => ?_)
  ·replace hc := of_decide_eq_true hc
   obtain ⟨q, hq⟩ : ∃ q, l[i]? = some q := da (by omega)
   refine aw ?_
   refine K7 _ ?_
   refine yS fun _ K9 => ?_
   refine ay ?_
   refine ci 10 ?_
   refine zQ ?_
   refine ki (X := Bool) (fun d => jn t x l i = !d) (fun d => [(60, .v (.bool d))]) (fun d G' => G') rfl ?_ (fun _ _ _ _ h => .inl h) ?_ ?_
   ·rintro d hI
    exact zL
   ·refine px [(0, none), (1, none), (2, none), (3, none), (4, none)] (fun _ => false) (fun i => [1, 2, 3].contains i) 33 (rl [5, 33]) (by kernel_rfl) (by kernel_rfl) ?_
    try dsimp only [St.put]
    refine ar rfl rfl rfl rfl (dw rfl rfl rfl) ?_
    refine xM rfl rfl rfl rfl rfl ?_
    refine xM rfl rfl rfl rfl rfl ?_
    try dsimp only [St.put]
    refine af rfl rfl rfl rfl (bn rfl rfl rfl rfl (bi (by assumption)) (Enc.len _)) ?_
    try dsimp only [St.put]
    refine ar rfl rfl rfl rfl (dw rfl rfl (Enc.len _)) ?_
    refine ce ?_
    refine bz [5] (by kernel_rfl) (by simp) ?_
    refine bq ?_ ?_
    ·try dsimp only [St.put]
     refine co rfl rfl rfl (ba rfl rfl rfl (uge t q ht) ?_)
     refine dt [(6, none), (7, none), (8, none), (9, none), (10, none), (11, none), (12, none), (14, none), (15, none), (16, none), (17, none)] (fun i => [6, 7, 9, 10, 11, 14, 16].contains i) 21 (rl [13, 1, 4, 20]) (by kernel_rfl) ?_
     refine af rfl rfl rfl rfl (dr rfl rfl) ?_
     refine j5 (fun hs => ?_) (fun hs => ?_)
     ·have s4 := hs
      refine xM rfl rfl rfl rfl rfl ?_
      refine ak rfl rfl rfl ?_
      refine ak rfl rfl rfl ?_
      refine ak rfl rfl rfl ?_
      refine ak rfl rfl rfl ?_
      refine ak rfl rfl rfl ?_
      refine ak rfl rfl rfl ?_
      refine ak rfl rfl rfl ?_
      refine ak rfl rfl rfl ?_
      refine ak rfl rfl rfl ?_
      refine ce ?_
      refine bz [13] (by kernel_rfl) (by simp) ?_
      refine bq ?_ ?_
      ·refine ge rfl rfl rfl ?_
       refine bz [18] (by kernel_rfl) (by simp) ?_
       refine bq ?_ ?_
       ·refine ge rfl rfl rfl ?_
        refine dt [(19, none), (20, none), (21, none), (22, none), (23, none), (24, none), (25, none), (26, none), (27, none), (28, none), (29, none), (30, none), (31, none), (32, none), (33, none)] (fun i => [19, 20, 21, 22, 23, 24, 25, 26, 27, 28, 30, 31, 32].contains i) 4 (rl [34, 4]) (by kernel_rfl) ?_
        refine ak rfl rfl rfl ?_
        refine af rfl rfl rfl rfl (cy rfl rfl (by constructor)) ?_
        refine xM rfl rfl rfl rfl rfl ?_
        refine ak rfl rfl rfl ?_
        refine ak rfl rfl rfl ?_
        refine ak rfl rfl rfl ?_
        refine ak rfl rfl rfl ?_
        refine ak rfl rfl rfl ?_
        refine ak rfl rfl rfl ?_
        refine ak rfl rfl rfl ?_
        refine ak rfl rfl rfl ?_
        refine ak rfl rfl rfl ?_
        refine ak rfl rfl rfl ?_
        refine ak rfl rfl rfl ?_
        refine ak rfl rfl rfl ?_
        refine ce ?_
        refine bz [34] (by kernel_rfl) (by simp) ?_
        refine bq ?_ ?_
        ·refine ge rfl rfl rfl ?_
         refine dt [(35, none), (36, none), (37, none)] (fun i => [35, 36, 37].contains i) 0 (rl [38]) (by kernel_rfl) ?_
         refine ak rfl rfl rfl ?_
         refine ak rfl rfl rfl ?_
         refine af rfl rfl rfl rfl (cy rfl rfl (by constructor)) ?_
         refine ce ?_
         dsimp only [St.put]
         refine eu (by kernel_rfl) ?_
         refine ⟨_, ?_, ⟨⟨rfl, rfl⟩, zF, zB, zN, zX⟩⟩
         simp_all [jn, fk, nd]
         try (intro h0; omega)
        exact ca
       exact ca
      exact ca
     have hqp : fm t q = true := by simpa using hs
     refine xM rfl rfl rfl rfl rfl ?_
     try dsimp only [St.put]
     refine ar rfl rfl rfl rfl (dw rfl rfl rfl) ?_
     refine xM rfl rfl rfl rfl rfl ?_
     refine xM rfl rfl rfl rfl rfl ?_
     try dsimp only [St.put]
     refine af rfl rfl rfl rfl (bn rfl rfl rfl rfl (bi (by assumption)) (Enc.len _)) ?_
     try dsimp only [St.put]
     refine ar rfl rfl rfl rfl (dw rfl rfl (Enc.len _)) ?_
     refine af rfl rfl rfl rfl (cj rfl rfl rfl) ?_
     try dsimp only [St.put]
     refine ar rfl rfl rfl rfl (br rfl rfl) ?_
     refine af rfl rfl rfl rfl (cj rfl rfl rfl) ?_
     try dsimp only [St.put]
     refine ar rfl rfl rfl rfl (br rfl rfl) ?_
     refine ce ?_
     refine bz [13] (by kernel_rfl) (by simp) ?_
     refine bq ?_ ?_
     ·try dsimp only [St.put]
      refine co rfl rfl rfl (ba rfl rfl rfl (y4 t q ht hqp) ?_)
      refine bz [18] (by kernel_rfl) (by simp) ?_
      refine bq ?_ ?_
      ·try dsimp only [St.put]
       refine co rfl rfl rfl (ba rfl rfl rfl (ph _ _ _) ?_)
       refine dt [(19, none), (20, none), (21, none), (22, none), (23, none), (24, none), (25, none), (26, none), (27, none), (28, none), (29, none), (30, none), (31, none), (32, none), (33, none)] (fun i => [19, 20, 21, 22, 23, 24, 25, 26, 27, 28, 30, 31, 32].contains i) 4 (rl [34, 4]) (by kernel_rfl) ?_
       refine af rfl rfl rfl rfl (dr rfl rfl) ?_
       refine j5 (fun hs => ?_) (fun hs => ?_)
       ·have s5 := hs
        refine af rfl rfl rfl rfl (cm rfl rfl (by constructor)) ?_
        refine xM rfl rfl rfl rfl rfl ?_
        refine ak rfl rfl rfl ?_
        refine ak rfl rfl rfl ?_
        refine ak rfl rfl rfl ?_
        refine ak rfl rfl rfl ?_
        refine ak rfl rfl rfl ?_
        refine ak rfl rfl rfl ?_
        refine ak rfl rfl rfl ?_
        refine ak rfl rfl rfl ?_
        refine ak rfl rfl rfl ?_
        refine ak rfl rfl rfl ?_
        refine ak rfl rfl rfl ?_
        refine ak rfl rfl rfl ?_
        refine ce ?_
        refine bz [34] (by kernel_rfl) (by simp) ?_
        refine bq ?_ ?_
        ·refine ge rfl rfl rfl ?_
         refine dt [(35, none), (36, none), (37, none)] (fun i => [35, 36, 37].contains i) 0 (rl [38]) (by kernel_rfl) ?_
         refine ak rfl rfl rfl ?_
         refine ak rfl rfl rfl ?_
         refine af rfl rfl rfl rfl (cy rfl rfl (by constructor)) ?_
         refine ce ?_
         dsimp only [St.put]
         refine eu (by kernel_rfl) ?_
         refine ⟨_, ?_, ⟨⟨rfl, rfl⟩, zF, zB, zN, zX⟩⟩
         simp_all [jn, fk, nd]
         try (intro h0; omega)
        exact ca
       have s5 := hs
       refine af rfl rfl rfl rfl (cm rfl rfl (by constructor)) ?_
       refine xM rfl rfl rfl rfl rfl ?_
       refine xM rfl rfl rfl rfl rfl ?_
       refine af rfl rfl rfl rfl (iq rfl rfl rfl) ?_
       refine j5 (fun hs => ?_) (fun hs => ?_)
       ·have s6 : 0 < i := by
         have := of_decide_eq_true hs
         omega
        obtain ⟨q0, hq0⟩ : ∃ q0, l[i - 1]? = some q0 := da (by omega)
        refine xM rfl rfl rfl rfl rfl ?_
        refine xM rfl rfl rfl rfl rfl ?_
        refine xM rfl rfl rfl rfl rfl ?_
        refine af rfl rfl rfl rfl (f9 rfl rfl rfl (by omega)) ?_
        try dsimp only [St.put]
        refine af rfl rfl rfl rfl (bn (k := i - 1) rfl rfl rfl (by omega) (bi hq0) (Enc.len _)) ?_
        try dsimp only [St.put]
        refine ar rfl rfl rfl rfl (dw rfl rfl (Enc.len _)) ?_
        refine xM rfl rfl rfl rfl rfl ?_
        refine xM rfl rfl rfl rfl rfl ?_
        try dsimp only [St.put]
        refine af rfl rfl rfl rfl (bn rfl rfl rfl rfl (bi (by assumption)) (Enc.len _)) ?_
        try dsimp only [St.put]
        refine ar rfl rfl rfl rfl (dw rfl rfl (Enc.len _)) ?_
        refine ce ?_
        refine bz [34] (by kernel_rfl) (by simp) ?_
        refine bq ?_ ?_
        ·try dsimp only [St.put]
         refine co rfl rfl rfl (ba rfl rfl rfl (ugh q0 q) ?_)
         refine dt [(35, none), (36, none), (37, none)] (fun i => [35, 36, 37].contains i) 0 (rl [38]) (by kernel_rfl) ?_
         refine af rfl rfl rfl rfl (dr rfl rfl) ?_
         refine af rfl rfl rfl rfl (cy rfl rfl (by constructor)) ?_
         refine af rfl rfl rfl rfl (cm rfl rfl (by constructor)) ?_
         refine ce ?_
         dsimp only [St.put]
         refine eu (by kernel_rfl) ?_
         refine ⟨_, ?_, ⟨⟨rfl, rfl⟩, zF, zB, zN, zX⟩⟩
         simp_all [jn, fk, nd]
         try (intro h0; omega)
        exact ca
       have s6 : i = 0 := by
        have := of_decide_eq_false hs
        omega
       refine xM rfl rfl rfl rfl rfl ?_
       refine ak rfl rfl rfl ?_
       refine ak rfl rfl rfl ?_
       refine ak rfl rfl rfl ?_
       refine ak rfl rfl rfl ?_
       refine ak rfl rfl rfl ?_
       refine ak rfl rfl rfl ?_
       refine ak rfl rfl rfl ?_
       refine ak rfl rfl rfl ?_
       refine ak rfl rfl rfl ?_
       refine ce ?_
       refine bz [34] (by kernel_rfl) (by simp) ?_
       refine bq ?_ ?_
       ·refine ge rfl rfl rfl ?_
        refine dt [(35, none), (36, none), (37, none)] (fun i => [35, 36, 37].contains i) 0 (rl [38]) (by kernel_rfl) ?_
        refine ak rfl rfl rfl ?_
        refine af rfl rfl rfl rfl (cm rfl rfl (by constructor)) ?_
        refine af rfl rfl rfl rfl (cm rfl rfl (by constructor)) ?_
        refine ce ?_
        dsimp only [St.put]
        refine eu (by kernel_rfl) ?_
        refine ⟨_, ?_, ⟨⟨rfl, rfl⟩, zF, zB, zN, zX⟩⟩
        simp_all [jn, fk, nd]
        try (intro h0; omega)
       exact ca
      exact ca
     exact ca
    exact ca
   rintro d hst
   dsimp only at hst ⊢
   refine am rfl (fun hc => ?_) (fun hc => ?_)
   ·skip
    refine yS fun _ K11 => ?_
    refine yR ?_
    refine yA rfl rfl ?_
    refine yN ?_
    dsimp only [St.put]
    refine K11 _ ?_
    refine aq ?_
    refine bh rfl (by constructor) zN zS ?_
    exact vb (by
     have e : jn t x l i = false := by rw [hst, hc]; rfl
     have : dx t x l l.length = false := by
      refine List.all_eq_false.2 ⟨i, List.mem_range.2 (by omega), by rw [e]; simp⟩
     simp [ie, this])
   skip
   refine aw ?_
   refine K9 _ ?_
   refine yR ?_
   refine yM rfl rfl ?_
   refine aa rfl (bp rfl rfl rfl (by omega)) ?_
   refine yA rfl rfl ?_
   refine yN ?_
   dsimp only [St.put]
   exact ⟨i + 1, by omega, ⟨by omega, by rw [gz, hI.2, hst, hc]; rfl⟩, ⟨⟨rfl, rfl⟩, zF, zB, zN, zX⟩⟩
  replace hc := of_decide_eq_false hc
  obtain rfl : i = l.length := by omega
  refine cr ?_
  refine K5 _ ?_
  refine yS fun _ K12 => ?_
  refine yR ?_
  refine yA rfl rfl ?_
  refine yN ?_
  dsimp only [St.put]
  refine K12 _ ?_
  refine aq ?_
  refine bh rfl (by constructor) zN zS ?_
  exact vb (by
   unfold ie
   rw [hI.2, Bool.and_true]
   first
   | exact s3.symm
   | (have e1 : 0 ≤ r := by omega
      simp [e1]))
 have s1 : ¬ r < 0 := of_decide_eq_false hs
 refine yM rfl rfl ?_
 refine yK rfl ?_
 refine yK rfl ?_
 refine yK rfl ?_
 refine aa rfl (cm rfl rfl (by constructor)) ?_
 refine yN ?_
 dsimp only [St.put]
 refine K3 _ ?_
 refine am rfl (fun h => by cases h) (fun _ => ?_)
 have s3 : (decide (0 ≤ r) || decide (l = [])) = true := by
  first
  | (rw [decide_eq_true (show 0 ≤ r by omega)]; rfl)
  | (have := of_decide_eq_false hc
     have : l = [] := List.eq_nil_of_length_eq_zero (by omega)
     simp [this])
 refine aw ?_
 refine K2 _ ?_
 refine yS fun _ K13 => ?_
 refine yS fun _ K14 => ?_
 refine yR ?_
 refine yA rfl rfl ?_
 refine yN ?_
 dsimp only [St.put]
 refine K14 _ ?_
 refine ay ?_
 refine ci 10 ?_
 refine zQ ?_
 refine c4 (G) zX ?_
 dsimp only
 refine cz (X := Nat) (fun i => i ≤ l.length ∧ dx t x l i = true) (fun i => l.length - i) (fun i => [(9, .v (.int .i64 (i : Int)))]) (fun i G' => G') 0 rfl ?_ ?_ (fun _ _ h => h) ?_ ?_ ?_
 ·exact ⟨Nat.zero_le _, rfl⟩
 ·exact zF
 ·rintro i hI
  exact zL
 ·exact fun _ _ _ _ h => .inl h
 rintro i hI
 dsimp only at hI ⊢
 refine yS fun _ K15 => ?_
 refine yS fun _ K16 => ?_
 refine yR ?_
 refine yM rfl rfl ?_
 refine yM rfl rfl ?_
 refine aa rfl (bg rfl rfl (List.length_map _)) ?_
 refine aa rfl (cg rfl rfl rfl) ?_
 refine yN ?_
 dsimp only [St.put]
 refine K16 _ ?_
 refine am rfl (fun hc => ?_) (fun hc => ?_)
 ·replace hc := of_decide_eq_true hc
  obtain ⟨q, hq⟩ : ∃ q, l[i]? = some q := da (by omega)
  refine aw ?_
  refine K15 _ ?_
  refine yS fun _ K17 => ?_
  refine ay ?_
  refine ci 10 ?_
  refine zQ ?_
  refine ki (X := Bool) (fun d => jn t x l i = !d) (fun d => [(60, .v (.bool d))]) (fun d G' => G') rfl ?_ (fun _ _ _ _ h => .inl h) ?_ ?_
  ·rintro d hI
   exact zL
  ·refine px [(0, none), (1, none), (2, none), (3, none), (4, none)] (fun _ => false) (fun i => [1, 2, 3].contains i) 33 (rl [5, 33]) (by kernel_rfl) (by kernel_rfl) ?_
   try dsimp only [St.put]
   refine ar rfl rfl rfl rfl (dw rfl rfl rfl) ?_
   refine xM rfl rfl rfl rfl rfl ?_
   refine xM rfl rfl rfl rfl rfl ?_
   try dsimp only [St.put]
   refine af rfl rfl rfl rfl (bn rfl rfl rfl rfl (bi (by assumption)) (Enc.len _)) ?_
   try dsimp only [St.put]
   refine ar rfl rfl rfl rfl (dw rfl rfl (Enc.len _)) ?_
   refine ce ?_
   refine bz [5] (by kernel_rfl) (by simp) ?_
   refine bq ?_ ?_
   ·try dsimp only [St.put]
    refine co rfl rfl rfl (ba rfl rfl rfl (uge t q ht) ?_)
    refine dt [(6, none), (7, none), (8, none), (9, none), (10, none), (11, none), (12, none), (14, none), (15, none), (16, none), (17, none)] (fun i => [6, 7, 9, 10, 11, 14, 16].contains i) 21 (rl [13, 1, 4, 20]) (by kernel_rfl) ?_
    refine af rfl rfl rfl rfl (dr rfl rfl) ?_
    refine j5 (fun hs => ?_) (fun hs => ?_)
    ·have s4 := hs
     refine xM rfl rfl rfl rfl rfl ?_
     refine ak rfl rfl rfl ?_
     refine ak rfl rfl rfl ?_
     refine ak rfl rfl rfl ?_
     refine ak rfl rfl rfl ?_
     refine ak rfl rfl rfl ?_
     refine ak rfl rfl rfl ?_
     refine ak rfl rfl rfl ?_
     refine ak rfl rfl rfl ?_
     refine ak rfl rfl rfl ?_
     refine ce ?_
     refine bz [13] (by kernel_rfl) (by simp) ?_
     refine bq ?_ ?_
     ·refine ge rfl rfl rfl ?_
      refine bz [18] (by kernel_rfl) (by simp) ?_
      refine bq ?_ ?_
      ·refine ge rfl rfl rfl ?_
       refine dt [(19, none), (20, none), (21, none), (22, none), (23, none), (24, none), (25, none), (26, none), (27, none), (28, none), (29, none), (30, none), (31, none), (32, none), (33, none)] (fun i => [19, 20, 21, 22, 23, 24, 25, 26, 27, 28, 30, 31, 32].contains i) 4 (rl [34, 4]) (by kernel_rfl) ?_
       refine ak rfl rfl rfl ?_
       refine af rfl rfl rfl rfl (cy rfl rfl (by constructor)) ?_
       refine xM rfl rfl rfl rfl rfl ?_
       refine ak rfl rfl rfl ?_
       refine ak rfl rfl rfl ?_
       refine ak rfl rfl rfl ?_
       refine ak rfl rfl rfl ?_
       refine ak rfl rfl rfl ?_
       refine ak rfl rfl rfl ?_
       refine ak rfl rfl rfl ?_
       refine ak rfl rfl rfl ?_
       refine ak rfl rfl rfl ?_
       refine ak rfl rfl rfl ?_
       refine ak rfl rfl rfl ?_
       refine ak rfl rfl rfl ?_
       refine ce ?_
       refine bz [34] (by kernel_rfl) (by simp) ?_
       refine bq ?_ ?_
       ·refine ge rfl rfl rfl ?_
        refine dt [(35, none), (36, none), (37, none)] (fun i => [35, 36, 37].contains i) 0 (rl [38]) (by kernel_rfl) ?_
        refine ak rfl rfl rfl ?_
        refine ak rfl rfl rfl ?_
        refine af rfl rfl rfl rfl (cy rfl rfl (by constructor)) ?_
        refine ce ?_
        dsimp only [St.put]
        refine eu (by kernel_rfl) ?_
        refine ⟨_, ?_, ⟨⟨rfl, rfl⟩, zF, zB, zN, zX⟩⟩
        simp_all [jn, fk, nd]
        try (intro h0; omega)
       exact ca
      exact ca
     exact ca
    have hqp : fm t q = true := by simpa using hs
    refine xM rfl rfl rfl rfl rfl ?_
    try dsimp only [St.put]
    refine ar rfl rfl rfl rfl (dw rfl rfl rfl) ?_
    refine xM rfl rfl rfl rfl rfl ?_
    refine xM rfl rfl rfl rfl rfl ?_
    try dsimp only [St.put]
    refine af rfl rfl rfl rfl (bn rfl rfl rfl rfl (bi (by assumption)) (Enc.len _)) ?_
    try dsimp only [St.put]
    refine ar rfl rfl rfl rfl (dw rfl rfl (Enc.len _)) ?_
    refine af rfl rfl rfl rfl (cj rfl rfl rfl) ?_
    try dsimp only [St.put]
    refine ar rfl rfl rfl rfl (br rfl rfl) ?_
    refine af rfl rfl rfl rfl (cj rfl rfl rfl) ?_
    try dsimp only [St.put]
    refine ar rfl rfl rfl rfl (br rfl rfl) ?_
    refine ce ?_
    refine bz [13] (by kernel_rfl) (by simp) ?_
    refine bq ?_ ?_
    ·try dsimp only [St.put]
     refine co rfl rfl rfl (ba rfl rfl rfl (y4 t q ht hqp) ?_)
     refine bz [18] (by kernel_rfl) (by simp) ?_
     refine bq ?_ ?_
     ·try dsimp only [St.put]
      refine co rfl rfl rfl (ba rfl rfl rfl (ph _ _ _) ?_)
      refine dt [(19, none), (20, none), (21, none), (22, none), (23, none), (24, none), (25, none), (26, none), (27, none), (28, none), (29, none), (30, none), (31, none), (32, none), (33, none)] (fun i => [19, 20, 21, 22, 23, 24, 25, 26, 27, 28, 30, 31, 32].contains i) 4 (rl [34, 4]) (by kernel_rfl) ?_
      refine af rfl rfl rfl rfl (dr rfl rfl) ?_
      refine j5 (fun hs => ?_) (fun hs => ?_)
      ·have s5 := hs
       refine af rfl rfl rfl rfl (cm rfl rfl (by constructor)) ?_
       refine xM rfl rfl rfl rfl rfl ?_
       refine ak rfl rfl rfl ?_
       refine ak rfl rfl rfl ?_
       refine ak rfl rfl rfl ?_
       refine ak rfl rfl rfl ?_
       refine ak rfl rfl rfl ?_
       refine ak rfl rfl rfl ?_
       refine ak rfl rfl rfl ?_
       refine ak rfl rfl rfl ?_
       refine ak rfl rfl rfl ?_
       refine ak rfl rfl rfl ?_
       refine ak rfl rfl rfl ?_
       refine ak rfl rfl rfl ?_
       refine ce ?_
       refine bz [34] (by kernel_rfl) (by simp) ?_
       refine bq ?_ ?_
       ·refine ge rfl rfl rfl ?_
        refine dt [(35, none), (36, none), (37, none)] (fun i => [35, 36, 37].contains i) 0 (rl [38]) (by kernel_rfl) ?_
        refine ak rfl rfl rfl ?_
        refine ak rfl rfl rfl ?_
        refine af rfl rfl rfl rfl (cy rfl rfl (by constructor)) ?_
        refine ce ?_
        dsimp only [St.put]
        refine eu (by kernel_rfl) ?_
        refine ⟨_, ?_, ⟨⟨rfl, rfl⟩, zF, zB, zN, zX⟩⟩
        simp_all [jn, fk, nd]
        try (intro h0; omega)
       exact ca
      have s5 := hs
      refine af rfl rfl rfl rfl (cm rfl rfl (by constructor)) ?_
      refine xM rfl rfl rfl rfl rfl ?_
      refine xM rfl rfl rfl rfl rfl ?_
      refine af rfl rfl rfl rfl (iq rfl rfl rfl) ?_
      refine j5 (fun hs => ?_) (fun hs => ?_)
      ·have s6 : 0 < i := by
        have := of_decide_eq_true hs
        omega
       obtain ⟨q0, hq0⟩ : ∃ q0, l[i - 1]? = some q0 := da (by omega)
       refine xM rfl rfl rfl rfl rfl ?_
       refine xM rfl rfl rfl rfl rfl ?_
       refine xM rfl rfl rfl rfl rfl ?_
       refine af rfl rfl rfl rfl (f9 rfl rfl rfl (by omega)) ?_
       try dsimp only [St.put]
       refine af rfl rfl rfl rfl (bn (k := i - 1) rfl rfl rfl (by omega) (bi hq0) (Enc.len _)) ?_
       try dsimp only [St.put]
       refine ar rfl rfl rfl rfl (dw rfl rfl (Enc.len _)) ?_
       refine xM rfl rfl rfl rfl rfl ?_
       refine xM rfl rfl rfl rfl rfl ?_
       try dsimp only [St.put]
       refine af rfl rfl rfl rfl (bn rfl rfl rfl rfl (bi (by assumption)) (Enc.len _)) ?_
       try dsimp only [St.put]
       refine ar rfl rfl rfl rfl (dw rfl rfl (Enc.len _)) ?_
       refine ce ?_
       refine bz [34] (by kernel_rfl) (by simp) ?_
       refine bq ?_ ?_
       ·try dsimp only [St.put]
        refine co rfl rfl rfl (ba rfl rfl rfl (ugh q0 q) ?_)
        refine dt [(35, none), (36, none), (37, none)] (fun i => [35, 36, 37].contains i) 0 (rl [38]) (by kernel_rfl) ?_
        refine af rfl rfl rfl rfl (dr rfl rfl) ?_
        refine af rfl rfl rfl rfl (cy rfl rfl (by constructor)) ?_
        refine af rfl rfl rfl rfl (cm rfl rfl (by constructor)) ?_
        refine ce ?_
        dsimp only [St.put]
        refine eu (by kernel_rfl) ?_
        refine ⟨_, ?_, ⟨⟨rfl, rfl⟩, zF, zB, zN, zX⟩⟩
        simp_all [jn, fk, nd]
        try (intro h0; omega)
       exact ca
      have s6 : i = 0 := by
       have := of_decide_eq_false hs
       omega
      refine xM rfl rfl rfl rfl rfl ?_
      refine ak rfl rfl rfl ?_
      refine ak rfl rfl rfl ?_
      refine ak rfl rfl rfl ?_
      refine ak rfl rfl rfl ?_
      refine ak rfl rfl rfl ?_
      refine ak rfl rfl rfl ?_
      refine ak rfl rfl rfl ?_
      refine ak rfl rfl rfl ?_
      refine ak rfl rfl rfl ?_
      refine ce ?_
      refine bz [34] (by kernel_rfl) (by simp) ?_
      refine bq ?_ ?_
      ·refine ge rfl rfl rfl ?_
       refine dt [(35, none), (36, none), (37, none)] (fun i => [35, 36, 37].contains i) 0 (rl [38]) (by kernel_rfl) ?_
       refine ak rfl rfl rfl ?_
       refine af rfl rfl rfl rfl (cm rfl rfl (by constructor)) ?_
       refine af rfl rfl rfl rfl (cm rfl rfl (by constructor)) ?_
       refine ce ?_
       dsimp only [St.put]
       refine eu (by kernel_rfl) ?_
       refine ⟨_, ?_, ⟨⟨rfl, rfl⟩, zF, zB, zN, zX⟩⟩
       simp_all [jn, fk, nd]
       try (intro h0; omega)
      exact ca
     exact ca
    exact ca
   exact ca
  rintro d hst
  dsimp only at hst ⊢
  refine am rfl (fun hc => ?_) (fun hc => ?_)
  ·skip
   refine yS fun _ K19 => ?_
   refine yR ?_
   refine yA rfl rfl ?_
   refine yN ?_
   dsimp only [St.put]
   refine K19 _ ?_
   refine aq ?_
   refine bh rfl (by constructor) zN zS ?_
   exact vb (by
    have e : jn t x l i = false := by rw [hst, hc]; rfl
    have : dx t x l l.length = false := by
     refine List.all_eq_false.2 ⟨i, List.mem_range.2 (by omega), by rw [e]; simp⟩
    simp [ie, this])
  skip
  refine aw ?_
  refine K17 _ ?_
  refine yR ?_
  refine yM rfl rfl ?_
  refine aa rfl (bp rfl rfl rfl (by omega)) ?_
  refine yA rfl rfl ?_
  refine yN ?_
  dsimp only [St.put]
  exact ⟨i + 1, by omega, ⟨by omega, by rw [gz, hI.2, hst, hc]; rfl⟩, ⟨⟨rfl, rfl⟩, zF, zB, zN, zX⟩⟩
 replace hc := of_decide_eq_false hc
 obtain rfl : i = l.length := by omega
 refine cr ?_
 refine K13 _ ?_
 refine yS fun _ K20 => ?_
 refine yR ?_
 refine yA rfl rfl ?_
 refine yN ?_
 dsimp only [St.put]
 refine K20 _ ?_
 refine aq ?_
 refine bh rfl (by constructor) zN zS ?_
 exact vb (by
  unfold ie
  rw [hI.2, Bool.and_true]
  first
  | exact s3.symm
  | (have e1 : 0 ≤ r := by omega
     simp [e1]))
end Go.Proofs.YtbbdginipiljdaaGreatDoor
